/- Several texts of my own, joined. No condition beyond what each theorem states. -/
import Derived.Test.YtlaemhigmgmgjaaGreatK4
import Derived.Test.YtlaemhigmgmgjaaGreatK8
/- Plain: the cost of a quantity on steps, held against a price. No condition. -/
namespace Go.Proofs.YtlaemhigmgmgjaaGreat
set_option linter.unusedVariables false
set_option linter.unusedSimpArgs false

def sg (up : Bool) : Rat := if up then 1 else -1
/-- The cost of y on steps, taken in their order. -/
def costC : List (Int × Int) → Rat → Rat
  | [], _ => 0
  | s :: r, y => minQ y (s.1 : Rat) * (s.2 : Rat) + costC r (y - minQ y (s.1 : Rat))
def vC (up : Bool) (l : Rat) : List (Int × Int) → Rat
  | [] => 0
  | s :: r => (if 0 ≤ sg up * (l - (s.2 : Rat)) then sg up * (l - (s.2 : Rat)) * (s.1 : Rat) else 0) + vC up l r
def leastC (up : Bool) (l : Rat) : List (Int × Int) → Rat
  | [] => 0
  | s :: r => (if 0 < sg up * (l - (s.2 : Rat)) then (s.1 : Rat) else 0) + leastC up l r
def mostC (up : Bool) (l : Rat) : List (Int × Int) → Rat
  | [] => 0
  | s :: r => (if 0 ≤ sg up * (l - (s.2 : Rat)) then (s.1 : Rat) else 0) + mostC up l r
def totC : List (Int × Int) → Rat
  | [] => 0
  | s :: r => (s.1 : Rat) + totC r
theorem costC_cons (s : Int × Int) (r : List (Int × Int)) (y : Rat) : costC (s :: r) y = minQ y (s.1 : Rat) * (s.2 : Rat) + costC r (y - minQ y (s.1 : Rat)) := rfl
theorem vC_cons (up : Bool) (l : Rat) (s : Int × Int) (r : List (Int × Int)) : vC up l (s :: r) = (if 0 ≤ sg up * (l - (s.2 : Rat)) then sg up * (l - (s.2 : Rat)) * (s.1 : Rat) else 0) + vC up l r := rfl
theorem leastC_cons (up : Bool) (l : Rat) (s : Int × Int) (r : List (Int × Int)) : leastC up l (s :: r) = (if 0 < sg up * (l - (s.2 : Rat)) then (s.1 : Rat) else 0) + leastC up l r := rfl
theorem mostC_cons (up : Bool) (l : Rat) (s : Int × Int) (r : List (Int × Int)) : mostC up l (s :: r) = (if 0 ≤ sg up * (l - (s.2 : Rat)) then (s.1 : Rat) else 0) + mostC up l r := rfl
theorem totC_cons (s : Int × Int) (r : List (Int × Int)) : totC (s :: r) = (s.1 : Rat) + totC r := rfl
theorem tri (a b : Rat) : a < b ∨ a = b ∨ b < a := by grind
theorem minQ_cases (p q : Rat) : (p ≤ q ∧ minQ p q = p) ∨ (q < p ∧ minQ p q = q) := by
  unfold minQ; by_cases h : p ≤ q <;> simp [h]; grind
theorem mul_nn {a b : Rat} (ha : 0 ≤ a) (hb : 0 ≤ b) : 0 ≤ a * b := Rat.mul_nonneg ha hb
theorem step_le {d x Q : Rat} (h0 : 0 ≤ x) (h1 : x ≤ Q) : d * x ≤ (if 0 ≤ d then d * Q else 0) := by
  by_cases hd : 0 ≤ d
  · rw [if_pos hd]
    have := mul_nn hd (show 0 ≤ Q - x by grind)
    grind
  · rw [if_neg hd]
    have := mul_nn (show 0 ≤ -d by grind) h0
    grind
theorem step_eq {d x Q : Rat} (h0 : 0 ≤ x) (h1 : x ≤ Q) : d * x = (if 0 ≤ d then d * Q else 0) ↔ (0 < d → x = Q) ∧ (d < 0 → x = 0) := by
  rcases tri d 0 with hd | hd | hd
  · rw [if_neg (by grind)]
    constructor
    · intro h
      refine ⟨fun h2 => by grind, fun _ => ?_⟩
      rcases Rat.mul_eq_zero.1 h with h | h <;> grind
    · rintro ⟨_, h⟩; rw [h hd]; grind
  · subst hd; grind
  · rw [if_pos (by grind)]
    constructor
    · intro h
      refine ⟨fun _ => ?_, fun h2 => by grind⟩
      have : d * (x - Q) = 0 := by grind
      rcases Rat.mul_eq_zero.1 this with h | h <;> grind
    · rintro ⟨h, _⟩; rw [h hd]
theorem totC_nn : ∀ {c : List (Int × Int)}, (∀ s ∈ c, 0 ≤ s.1) → 0 ≤ totC c
  | [], _ => by simp [totC]
  | s :: r, h => by
    have h1 : (0 : Rat) ≤ (s.1 : Rat) := by exact_mod_cast h s (by simp)
    have h2 := totC_nn (c := r) (fun t ht => h t (List.mem_cons_of_mem _ ht))
    rw [totC_cons]; grind
theorem cost_weak (up : Bool) (l : Rat) : ∀ {c : List (Int × Int)} {y : Rat}, (∀ s ∈ c, 0 ≤ s.1) → 0 ≤ y → y ≤ totC c → sg up * l * y - vC up l c ≤ sg up * costC c y
  | [], y, _, h0, h1 => by
    have : y = 0 := by unfold totC at h1; grind
    subst this; show sg up * l * 0 - 0 ≤ sg up * 0; grind
  | s :: r, y, h, h0, h1 => by
    have hq : (0 : Rat) ≤ (s.1 : Rat) := by exact_mod_cast h s (by simp)
    rw [totC_cons] at h1
    have hr := totC_nn (c := r) (fun t ht => h t (List.mem_cons_of_mem _ ht))
    have hm := minQ_cases y (s.1 : Rat)
    have ih := cost_weak up l (c := r) (y := y - minQ y (s.1 : Rat)) (fun t ht => h t (List.mem_cons_of_mem _ ht)) (by grind) (by grind)
    have hst := step_le (d := sg up * (l - (s.2 : Rat))) (x := minQ y (s.1 : Rat)) (Q := (s.1 : Rat)) (by grind) (by grind)
    rw [costC_cons, vC_cons]
    generalize minQ y (s.1 : Rat) = x at *
    generalize (if 0 ≤ sg up * (l - (s.2 : Rat)) then sg up * (l - (s.2 : Rat)) * (s.1 : Rat) else 0) = m at *
    generalize costC r (y - x) = C at *
    generalize vC up l r = V at *
    grind
/-- All of it lies behind the price. -/
theorem behind {up : Bool} {l : Rat} : ∀ {c : List (Int × Int)}, (∀ s ∈ c, sg up * (l - (s.2 : Rat)) < 0) → leastC up l c = 0 ∧ mostC up l c = 0 ∧ vC up l c = 0
  | [], _ => ⟨rfl, rfl, rfl⟩
  | s :: r, h => by
    have h1 := h s (by simp)
    obtain ⟨a, b, c⟩ := behind (c := r) (fun t ht => h t (List.mem_cons_of_mem _ ht))
    rw [leastC_cons, mostC_cons, vC_cons, if_neg (by grind), if_neg (by grind), if_neg (by grind), a, b, c]
    grind
theorem sg_after {up : Bool} {a b : Int} (h : afterOf up a b = true) : sg up * (a : Rat) < sg up * (b : Rat) := by
  rw [afterOf_iff] at h
  unfold sg
  cases up
  · simp only [Bool.false_eq_true, if_false] at *
    have : (b : Rat) < (a : Rat) := by exact_mod_cast h
    grind
  · simp only [if_true] at *
    have : (a : Rat) < (b : Rat) := by exact_mod_cast h
    grind
theorem least_most {up : Bool} {l : Rat} : ∀ {c : List (Int × Int)}, (∀ s ∈ c, 0 ≤ s.1) → 0 ≤ leastC up l c ∧ leastC up l c ≤ mostC up l c ∧ mostC up l c ≤ totC c
  | [], _ => by simp [leastC, mostC, totC]
  | s :: r, h => by
    have hq : (0 : Rat) ≤ (s.1 : Rat) := by exact_mod_cast h s (by simp)
    obtain ⟨a, b, c⟩ := least_most (up := up) (l := l) (c := r) (fun t ht => h t (List.mem_cons_of_mem _ ht))
    rw [leastC_cons, mostC_cons, totC_cons]
    by_cases h1 : 0 < sg up * (l - (s.2 : Rat))
    · rw [if_pos h1, if_pos (by grind)]; grind
    · rw [if_neg h1]
      by_cases h2 : 0 ≤ sg up * (l - (s.2 : Rat))
      · rw [if_pos h2]; grind
      · rw [if_neg h2]; grind
theorem cost_tight (up : Bool) (l : Rat) : ∀ {c : List (Int × Int)} {y : Rat}, (∀ s ∈ c, 0 < s.1) → c.Pairwise (fun s t => afterOf up s.2 t.2 = true) → 0 ≤ y → y ≤ totC c →
    (sg up * costC c y = sg up * l * y - vC up l c ↔ leastC up l c ≤ y ∧ y ≤ mostC up l c)
  | [], y, _, _, h0, h1 => by
    have : y = 0 := by unfold totC at h1; grind
    subst this; show sg up * 0 = sg up * l * 0 - 0 ↔ (0 : Rat) ≤ 0 ∧ (0 : Rat) ≤ 0; grind
  | s :: r, y, h, hp, h0, h1 => by
    obtain ⟨hp1, hp2⟩ := List.pairwise_cons.1 hp
    have hq : (0 : Rat) < (s.1 : Rat) := by exact_mod_cast h s (by simp)
    rw [totC_cons] at h1
    have h' : ∀ t ∈ r, 0 < t.1 := fun t ht => h t (List.mem_cons_of_mem _ ht)
    have h'' : ∀ t ∈ r, 0 ≤ t.1 := fun t ht => Int.le_of_lt (h' t ht)
    have hr := totC_nn (c := r) h''
    have hm := minQ_cases y (s.1 : Rat)
    have hy0 : 0 ≤ y - minQ y (s.1 : Rat) := by grind
    have hy1 : y - minQ y (s.1 : Rat) ≤ totC r := by grind
    have ih := cost_tight up l (c := r) (y := y - minQ y (s.1 : Rat)) h' hp2 hy0 hy1
    have hw := cost_weak up l (c := r) (y := y - minQ y (s.1 : Rat)) h'' hy0 hy1
    have hx0 : 0 ≤ minQ y (s.1 : Rat) := by grind
    have hx1 : minQ y (s.1 : Rat) ≤ (s.1 : Rat) := by grind
    have hst := step_le (d := sg up * (l - (s.2 : Rat))) hx0 hx1
    have hse := step_eq (d := sg up * (l - (s.2 : Rat))) hx0 hx1
    have hlm := least_most (up := up) (l := l) (c := r) h''
    have key : sg up * costC (s :: r) y = sg up * l * y - vC up l (s :: r) ↔ ((0 < sg up * (l - (s.2 : Rat)) → minQ y (s.1 : Rat) = (s.1 : Rat)) ∧ (sg up * (l - (s.2 : Rat)) < 0 → minQ y (s.1 : Rat) = 0)) ∧ leastC up l r ≤ y - minQ y (s.1 : Rat) ∧ y - minQ y (s.1 : Rat) ≤ mostC up l r := by
      rw [← ih, ← hse]
      rw [costC_cons, vC_cons]
      generalize minQ y (s.1 : Rat) = x at *
      generalize (if 0 ≤ sg up * (l - (s.2 : Rat)) then sg up * (l - (s.2 : Rat)) * (s.1 : Rat) else 0) = m at *
      generalize costC r (y - x) = C at *
      generalize vC up l r = V at *
      clear ih hse
      constructor
      · intro he; constructor <;> grind
      · rintro ⟨e1, e2⟩; grind
    rw [key]
    have hbe : sg up * (l - (s.2 : Rat)) ≤ 0 → leastC up l r = 0 ∧ mostC up l r = 0 := by
      intro hle
      have := behind (up := up) (l := l) (c := r) (fun t ht => by
        have := sg_after (hp1 t ht)
        grind)
      exact ⟨this.1, this.2.1⟩
    rw [leastC_cons, mostC_cons]
    clear key ih hw hse hst
    generalize sg up * (l - (s.2 : Rat)) = d at *
    rcases tri d 0 with hd | hd | hd
    · obtain ⟨e1, e2⟩ := hbe (by grind)
      rw [if_neg (by grind), if_neg (by grind), e1, e2]
      constructor
      · rintro ⟨⟨_, a⟩, b, c⟩; have := a hd; grind
      · rintro ⟨a, b⟩; grind
    · obtain ⟨e1, e2⟩ := hbe (by grind)
      subst hd
      rw [if_neg (by grind), if_pos (by grind), e1, e2]
      constructor
      · rintro ⟨_, b, c⟩; grind
      · rintro ⟨a, b⟩; grind
    · rw [if_pos hd, if_pos (by grind)]
      constructor
      · rintro ⟨⟨a, _⟩, b, c⟩; have := a hd; grind
      · rintro ⟨a, b⟩; grind
#print axioms cost_tight
end Go.Proofs.YtlaemhigmgmgjaaGreat
/- Plain: dividing from the last curve to the first. No condition. -/
namespace Go.Proofs.YtlaemhigmgmgjaaGreat
set_option linter.unusedVariables false
set_option linter.unusedSimpArgs false

/-! ### Dividing from the last curve to the first -/
def addL (a b : List Rat) : List Rat := List.zipWith (· + ·) a b
theorem addL_len {a b : List Rat} (h : a.length = b.length) : (addL a b).length = a.length := by simp [addL]; omega
theorem addL_cons (x y : Rat) (a b : List Rat) : addL (x :: a) (y :: b) = (x + y) :: addL a b := rfl
theorem addL_nil (b : List Rat) : addL [] b = [] := by simp [addL]
theorem addL_zero : ∀ (a : List Rat), addL a (List.replicate a.length 0) = a
  | [] => rfl
  | x :: a => by
    rw [List.length_cons, List.replicate_succ, addL_cons, addL_zero a]
    congr 1; grind
theorem zero_addL : ∀ (a : List Rat), addL (List.replicate a.length 0) a = a
  | [] => rfl
  | x :: a => by
    rw [List.length_cons, List.replicate_succ, addL_cons, zero_addL a]
    congr 1; grind
theorem addL_assoc : ∀ (a b c : List Rat), addL (addL a b) c = addL a (addL b c)
  | [], b, c => by simp [addL]
  | x :: a, [], c => by simp [addL]
  | x :: a, y :: b, [] => by simp [addL]
  | x :: a, y :: b, z :: c => by
    rw [addL_cons, addL_cons, addL_cons, addL_cons, addL_assoc a b c]
    congr 1; grind
theorem addL_sum : ∀ {a b : List Rat}, a.length = b.length → (addL a b).sum = a.sum + b.sum
  | [], [], _ => by simp [addL]; grind
  | [], _ :: _, h => by simp at h
  | _ :: _, [], h => by simp at h
  | x :: a, y :: b, h => by
    rw [addL_cons, List.sum_cons, List.sum_cons, List.sum_cons, addL_sum (by simpa using h)]
    grind
def castL (l : List Int) : List Rat := l.map (fun (x : Int) => (x : Rat))
theorem castL_len (l : List Int) : (castL l).length = l.length := by simp [castL]
theorem castL_cons (x : Int) (l : List Int) : castL (x :: l) = (x : Rat) :: castL l := rfl
def gEnd : List Int → Rat → List Rat × Rat
  | [], q => ([], q)
  | p :: r, q => (minQ (gEnd r q).2 (p : Rat) :: (gEnd r q).1, (gEnd r q).2 - minQ (gEnd r q).2 (p : Rat))
theorem gEnd_cons (p : Int) (r : List Int) (q : Rat) : gEnd (p :: r) q = (minQ (gEnd r q).2 (p : Rat) :: (gEnd r q).1, (gEnd r q).2 - minQ (gEnd r q).2 (p : Rat)) := rfl
theorem gEnd_len : ∀ (r : List Int) (q : Rat), (gEnd r q).1.length = r.length
  | [], _ => rfl
  | p :: r, q => by rw [gEnd_cons]; simp [gEnd_len r q]
theorem gEnd_snoc : ∀ (r : List Int) (p : Int) (q : Rat), gEnd (r ++ [p]) q = ((gEnd r (q - minQ q (p : Rat))).1 ++ [minQ q (p : Rat)], (gEnd r (q - minQ q (p : Rat))).2)
  | [], p, q => rfl
  | a :: r, p, q => by rw [List.cons_append, gEnd_cons, gEnd_snoc r p q, gEnd_cons]; rfl
theorem shareSt_eq (P : List Int) : ∀ (m : Nat) (o : List Rat) (q : Rat), m ≤ P.length → o.length = P.length →
    shareSt P m (o, q) = (addL (o.take m) (gEnd (P.take m) q).1 ++ o.drop m, (gEnd (P.take m) q).2)
  | 0, o, q, _, _ => by simp [shareSt, gEnd, addL]
  | m + 1, o, q, hm, ho => by
    have hP : P[m]?.getD 0 = P[m] := by simp [show m < P.length by omega]
    have hO : o[m]?.getD 0 = o[m] := by simp [show m < o.length by omega]
    unfold shareSt doOne
    simp only [hP, hO]
    rw [shareSt_eq P m _ _ (by omega) (by simpa using ho)]
    have e1 : P.take (m + 1) = P.take m ++ [P[m]] := List.take_succ_eq_append_getElem (by omega)
    have e2 : o.take (m + 1) = o.take m ++ [o[m]] := List.take_succ_eq_append_getElem (by omega)
    rw [e1, gEnd_snoc, e2]
    refine Prod.ext ?_ rfl
    simp only
    have h3 : (o.set m (o[m] + minQ q (P[m] : Rat))).take m = o.take m := by rw [List.take_set_of_le (Nat.le_refl _)]
    have h4 : (o.set m (o[m] + minQ q (P[m] : Rat))).drop m = (o[m] + minQ q (P[m] : Rat)) :: o.drop (m + 1) := by
      rw [List.drop_eq_getElem_cons (by simp; omega)]
      congr 1
      · simp
      · rw [List.drop_set_of_lt (by omega)]
    rw [h3, h4]
    have h5 : addL (o.take m ++ [o[m]]) ((gEnd (P.take m) (q - minQ q (P[m] : Rat))).1 ++ [minQ q (P[m] : Rat)]) = addL (o.take m) (gEnd (P.take m) (q - minQ q (P[m] : Rat))).1 ++ [o[m] + minQ q (P[m] : Rat)] := by
      unfold addL
      rw [List.zipWith_append (by rw [gEnd_len]; simp; omega)]
      rfl
    rw [h5, List.append_assoc]; rfl
def shareP (n : Nat) : List Lv → Rat → List Rat × Rat
  | [], q => (List.replicate n 0, q)
  | x :: s, q => (addL (gEnd x.2.2 q).1 (shareP n s (gEnd x.2.2 q).2).1, (shareP n s (gEnd x.2.2 q).2).2)
theorem shareP_cons (n : Nat) (x : Lv) (s : List Lv) (q : Rat) : shareP n (x :: s) q = (addL (gEnd x.2.2 q).1 (shareP n s (gEnd x.2.2 q).2).1, (shareP n s (gEnd x.2.2 q).2).2) := rfl
theorem shareP_len (n : Nat) : ∀ (s : List Lv) (q : Rat), (∀ x ∈ s, x.2.2.length = n) → (shareP n s q).1.length = n
  | [], q, _ => by simp [shareP]
  | x :: s, q, h => by
    have h1 := shareP_len n s (gEnd x.2.2 q).2 (fun y hy => h y (List.mem_cons_of_mem _ hy))
    have h2 := h x (by simp)
    rw [shareP_cons]
    simp only
    rw [addL_len (by rw [gEnd_len, h1, h2]), gEnd_len, h2]
theorem shareAll_eq (n : Nat) : ∀ (s : List Lv) (o : List Rat) (q : Rat), (∀ x ∈ s, x.2.2.length = n) → o.length = n → shareAll s (o, q) = (addL o (shareP n s q).1, (shareP n s q).2)
  | [], o, q, _, ho => by
    simp only [shareAll, shareP]
    rw [← ho, addL_zero]
  | x :: s, o, q, h, ho => by
    have h2 := h x (by simp)
    unfold shareAll
    rw [shareSt_eq x.2.2 x.2.2.length o q (Nat.le_refl _) (by omega), List.take_length, List.take_of_length_le (by omega), List.drop_of_length_le (by omega), List.append_nil,
      shareAll_eq n s _ _ (fun y hy => h y (List.mem_cons_of_mem _ hy)) (by rw [addL_len (by rw [gEnd_len]; omega)]; exact ho), addL_assoc]
    rfl

/-! ### As much as may be to the last -/
/-- Between lo and hi, and above lo only where all that follow stand at hi. -/
def TG : List Rat → List Rat → List Rat → Prop
  | l :: ls, x :: xs, h :: hs => l ≤ x ∧ x ≤ h ∧ (l < x → xs = hs) ∧ TG ls xs hs
  | [], [], [] => True
  | _, _, _ => False
theorem TG.add : ∀ {a l x h : List Rat}, a.length = l.length → TG l x h → TG (addL a l) (addL a x) (addL a h)
  | [], [], [], [], _, _ => trivial
  | a :: at2, l :: ls, x :: xs, h :: hs, ha, ⟨h1, h2, h3, h4⟩ => by
    refine ⟨by grind, by grind, fun h5 => ?_, TG.add (by simpa using ha) h4⟩
    rw [h3 (by grind)]
  | _ :: _, [], _, _, ha, _ => by simp at ha
  | [], _ :: _, _, _, ha, _ => by simp at ha
theorem TG.len : ∀ {l x h : List Rat}, TG l x h → l.length = x.length ∧ x.length = h.length
  | [], [], [], _ => ⟨rfl, rfl⟩
  | l :: ls, x :: xs, h :: hs, ⟨_, _, _, h4⟩ => by
    obtain ⟨a, b⟩ := TG.len h4
    simp [a, b]
theorem TG.refl : ∀ (l : List Rat), TG l l l
  | [] => trivial
  | x :: l => ⟨Rat.le_refl, Rat.le_refl, fun h => by grind, TG.refl l⟩
theorem TG.get : ∀ {l x h : List Rat}, TG l x h → ∀ (i : Nat) (h1 : i < l.length) (h2 : i < x.length) (h3 : i < h.length), l[i] ≤ x[i] ∧ x[i] ≤ h[i]
  | l :: ls, x :: xs, h :: hs, ⟨a, b, _, d⟩, i, h1, h2, h3 => by
    cases i with
    | zero => exact ⟨a, b⟩
    | succ i => exact TG.get d i (by simpa using h1) (by simpa using h2) (by simpa using h3)
theorem sum_le_of : ∀ {a b : List Rat}, a.length = b.length → (∀ (i : Nat) (h1 : i < a.length) (h2 : i < b.length), a[i] ≤ b[i]) → a.sum ≤ b.sum
  | [], [], _, _ => Rat.le_refl
  | [], _ :: _, h, _ => by simp at h
  | _ :: _, [], h, _ => by simp at h
  | x :: a, y :: b, h, hi => by
    have h0 := hi 0 (by simp) (by simp)
    simp only [List.getElem_cons_zero] at h0
    have h1 := sum_le_of (a := a) (b := b) (by simpa using h) (fun i h1 h2 => by have := hi (i + 1) (by simpa using h1) (by simpa using h2); simpa using this)
    simp only [List.sum_cons]
    grind
/-- The least of all of one sum. -/
theorem TG.lex : ∀ {l x h y : List Rat}, TG l x h → y.length = x.length → x.sum = y.sum → (∀ (i : Nat) (h1 : i < l.length) (h2 : i < y.length) (h3 : i < h.length), l[i] ≤ y[i] ∧ y[i] ≤ h[i]) →
    ∀ (i : Nat) (h1 : i < x.length) (h2 : i < y.length), (∀ j (hj : j < i), x[j] = y[j]) → x[i] ≠ y[i] → x[i] < y[i]
  | [], [], [], _, _, _, _, _, i, h1, _, _, _ => absurd h1 (by simp)
  | l :: ls, x :: xs, h :: hs, [], _, hy, _, _, _, _, _, _, _ => by simp at hy
  | l :: ls, x :: xs, h :: hs, y :: ys, hT, hy, hs', hb, i, h1, h2, hj, hne => by
    obtain ⟨a, b, c, d⟩ := hT
    obtain ⟨e1, e2⟩ := d.len
    have hyl : ys.length = xs.length := by simpa using hy
    simp only [List.sum_cons] at hs'
    have b0 := hb 0 (by simp) (by simp) (by simp)
    simp only [List.getElem_cons_zero] at b0
    have bt : ∀ (i : Nat) (h1 : i < ls.length) (h2 : i < ys.length) (h3 : i < hs.length), ls[i] ≤ ys[i] ∧ ys[i] ≤ hs[i] := fun i h1 h2 h3 => by
      have := hb (i + 1) (by simpa using h1) (by simpa using h2) (by simpa using h3)
      simpa using this
    cases i with
    | zero =>
      simp only [List.getElem_cons_zero] at hne ⊢
      rcases tri x y with hlt | heq | hgt
      · exact hlt
      · exact absurd heq hne
      · have := c (by grind)
        subst this
        have := sum_le_of (a := ys) (b := xs) hyl (fun i h1 h2 => (bt i (by omega) h1 h2).2)
        grind
    | succ i =>
      have hj0 := hj 0 (by omega)
      simp only [List.getElem_cons_zero] at hj0
      simp only [List.getElem_cons_succ] at hne ⊢
      refine TG.lex d hyl (by grind) bt i (by simpa using h1) (by simpa using h2) (fun j hji => ?_) hne
      have := hj (j + 1) (by omega)
      simpa using this
theorem gEnd_spec : ∀ {P : List Int} {q : Rat}, (∀ p ∈ P, 0 ≤ p) → 0 ≤ q →
    TG (List.replicate P.length 0) (gEnd P q).1 (castL P) ∧ 0 ≤ (gEnd P q).2 ∧ (gEnd P q).1.sum + (gEnd P q).2 = q ∧ (0 < (gEnd P q).2 → (gEnd P q).1 = castL P)
  | [], q, _, h0 => ⟨trivial, h0, by show (0 : Rat) + q = q; grind, fun _ => rfl⟩
  | p :: P, q, h, h0 => by
    obtain ⟨a, b, c, d⟩ := gEnd_spec (P := P) (q := q) (fun x hx => h x (List.mem_cons_of_mem _ hx)) h0
    have hp : (0 : Rat) ≤ (p : Rat) := by exact_mod_cast h p (by simp)
    rw [gEnd_cons, castL_cons, List.length_cons, List.replicate_succ]
    simp only [List.sum_cons]
    have hm := minQ_cases (gEnd P q).2 (p : Rat)
    generalize hx : minQ (gEnd P q).2 (p : Rat) = x at *
    refine ⟨⟨by grind, by grind, fun h1 => d (by grind), a⟩, by grind, by grind, fun h1 => ?_⟩
    have h2 : 0 < (gEnd P q).2 := by grind
    rw [d h2]
    congr 1
    grind
theorem gEnd_all {P : List Int} {q : Rat} (h : ∀ p ∈ P, 0 ≤ p) (h0 : (castL P).sum ≤ q) : gEnd P q = (castL P, q - (castL P).sum) := by
  induction P with
  | nil => show ([], q) = ([], q - 0); congr 1; grind
  | cons p P ih =>
    rw [castL_cons, List.sum_cons] at h0
    have hp : (0 : Rat) ≤ (p : Rat) := by exact_mod_cast h p (by simp)
    rw [gEnd_cons, ih (fun x hx => h x (List.mem_cons_of_mem _ hx)) (by grind), castL_cons, List.sum_cons]
    have hm := minQ_cases (q - (castL P).sum) (p : Rat)
    refine Prod.ext ?_ ?_
    · simp only; congr 1; grind
    · simp only; grind
theorem gEnd_zero {P : List Int} (h : ∀ p ∈ P, 0 ≤ p) : gEnd P 0 = (List.replicate P.length 0, 0) := by
  induction P with
  | nil => rfl
  | cons p P ih =>
    have hp : (0 : Rat) ≤ (p : Rat) := by exact_mod_cast h p (by simp)
    rw [gEnd_cons, ih (fun x hx => h x (List.mem_cons_of_mem _ hx)), List.length_cons, List.replicate_succ]
    have hm := minQ_cases 0 (p : Rat)
    refine Prod.ext ?_ ?_
    · simp only; congr 1; grind
    · simp only; grind
theorem replicate_sum : ∀ (n : Nat), (List.replicate n (0 : Rat)).sum = 0
  | 0 => rfl
  | n + 1 => by rw [List.replicate_succ, List.sum_cons, replicate_sum n]; grind
theorem zeros_addL (n : Nat) : addL (List.replicate n 0) (List.replicate n 0) = List.replicate n (0 : Rat) := by
  have := addL_zero (List.replicate n (0 : Rat))
  rwa [List.length_replicate] at this
theorem shareP_zero {n : Nat} : ∀ {s : List Lv}, (∀ x ∈ s, x.2.2.length = n ∧ ∀ p ∈ x.2.2, 0 ≤ p) → shareP n s 0 = (List.replicate n 0, 0)
  | [], _ => rfl
  | x :: s, h => by
    obtain ⟨h1, h2⟩ := h x (by simp)
    rw [shareP_cons, gEnd_zero h2]
    simp only
    rw [shareP_zero (fun y hy => h y (List.mem_cons_of_mem _ hy)), h1]
    simp only
    rw [zeros_addL]
/-- What lies ahead of a price; and what lies ahead of it or at it. -/
def loL (up : Bool) (l : Rat) (n : Nat) : List Lv → List Rat
  | [] => List.replicate n 0
  | x :: s => addL (if 0 < sg up * (l - (x.1 : Rat)) then castL x.2.2 else List.replicate n 0) (loL up l n s)
def hiL (up : Bool) (l : Rat) (n : Nat) : List Lv → List Rat
  | [] => List.replicate n 0
  | x :: s => addL (if 0 ≤ sg up * (l - (x.1 : Rat)) then castL x.2.2 else List.replicate n 0) (hiL up l n s)
theorem loL_cons (up : Bool) (l : Rat) (n : Nat) (x : Lv) (s : List Lv) : loL up l n (x :: s) = addL (if 0 < sg up * (l - (x.1 : Rat)) then castL x.2.2 else List.replicate n 0) (loL up l n s) := rfl
theorem hiL_cons (up : Bool) (l : Rat) (n : Nat) (x : Lv) (s : List Lv) : hiL up l n (x :: s) = addL (if 0 ≤ sg up * (l - (x.1 : Rat)) then castL x.2.2 else List.replicate n 0) (hiL up l n s) := rfl
theorem loL_len {up : Bool} {l : Rat} {n : Nat} : ∀ {s : List Lv}, (∀ x ∈ s, x.2.2.length = n) → (loL up l n s).length = n
  | [], _ => by simp [loL]
  | x :: s, h => by
    have h1 := loL_len (up := up) (l := l) (s := s) (fun y hy => h y (List.mem_cons_of_mem _ hy))
    have h2 := h x (by simp)
    have h3 : (if 0 < sg up * (l - (x.1 : Rat)) then castL x.2.2 else List.replicate n 0).length = n := by split <;> simp [castL_len, h2]
    rw [loL_cons, addL_len (by omega), h3]
theorem hiL_len {up : Bool} {l : Rat} {n : Nat} : ∀ {s : List Lv}, (∀ x ∈ s, x.2.2.length = n) → (hiL up l n s).length = n
  | [], _ => by simp [hiL]
  | x :: s, h => by
    have h1 := hiL_len (up := up) (l := l) (s := s) (fun y hy => h y (List.mem_cons_of_mem _ hy))
    have h2 := h x (by simp)
    have h3 : (if 0 ≤ sg up * (l - (x.1 : Rat)) then castL x.2.2 else List.replicate n 0).length = n := by split <;> simp [castL_len, h2]
    rw [hiL_cons, addL_len (by omega), h3]
theorem behindL {up : Bool} {l : Rat} {n : Nat} : ∀ {s : List Lv}, (∀ x ∈ s, sg up * (l - (x.1 : Rat)) < 0) → loL up l n s = List.replicate n 0 ∧ hiL up l n s = List.replicate n 0
  | [], _ => ⟨rfl, rfl⟩
  | x :: s, h => by
    have h1 := h x (by simp)
    obtain ⟨a, b⟩ := behindL (n := n) (s := s) (fun y hy => h y (List.mem_cons_of_mem _ hy))
    rw [loL_cons, hiL_cons, if_neg (by grind), if_neg (by grind), a, b, zeros_addL]
    exact ⟨rfl, rfl⟩
theorem castL_nn {P : List Int} (h : ∀ p ∈ P, 0 ≤ p) : 0 ≤ (castL P).sum := by
  induction P with
  | nil => exact Rat.le_refl
  | cons p P ih =>
    have hp : (0 : Rat) ≤ (p : Rat) := by exact_mod_cast h p (by simp)
    have := ih (fun x hx => h x (List.mem_cons_of_mem _ hx))
    rw [castL_cons, List.sum_cons]; grind
theorem loL_nn {up : Bool} {l : Rat} {n : Nat} : ∀ {s : List Lv}, (∀ x ∈ s, x.2.2.length = n ∧ ∀ p ∈ x.2.2, 0 ≤ p) → 0 ≤ (loL up l n s).sum
  | [], _ => by show 0 ≤ (List.replicate n (0 : Rat)).sum; rw [replicate_sum]; exact Rat.le_refl
  | x :: s, h => by
    obtain ⟨h1, h2⟩ := h x (by simp)
    have h3 := loL_nn (up := up) (l := l) (n := n) (s := s) (fun y hy => h y (List.mem_cons_of_mem _ hy))
    have h4 := loL_len (up := up) (l := l) (n := n) (s := s) (fun y hy => (h y (List.mem_cons_of_mem _ hy)).1)
    have h5 : (if 0 < sg up * (l - (x.1 : Rat)) then castL x.2.2 else List.replicate n 0).length = n := by split <;> simp [castL_len, h1]
    rw [loL_cons, addL_sum (by omega)]
    have h6 := castL_nn h2
    have h7 := replicate_sum n
    split <;> grind
theorem share_tg {up : Bool} {l : Rat} {n : Nat} : ∀ {s : List Lv} {q : Rat}, (∀ x ∈ s, x.2.2.length = n ∧ ∀ p ∈ x.2.2, 0 ≤ p) → s.Pairwise (fun a b => sg up * (a.1 : Rat) < sg up * (b.1 : Rat)) →
    (loL up l n s).sum ≤ q → q ≤ (hiL up l n s).sum → TG (loL up l n s) (shareP n s q).1 (hiL up l n s) ∧ (shareP n s q).1.sum = q
  | [], q, _, _, h0, h1 => by
    have : q = 0 := by
      have h0' : (List.replicate n (0 : Rat)).sum ≤ q := h0
      have h1' : q ≤ (List.replicate n (0 : Rat)).sum := h1
      rw [replicate_sum] at h0' h1'
      grind
    subst this
    exact ⟨TG.refl _, replicate_sum n⟩
  | x :: s, q, h, hp, h0, h1 => by
    obtain ⟨hp1, hp2⟩ := List.pairwise_cons.1 hp
    obtain ⟨hx1, hx2⟩ := h x (by simp)
    have h' : ∀ y ∈ s, y.2.2.length = n ∧ ∀ p ∈ y.2.2, 0 ≤ p := fun y hy => h y (List.mem_cons_of_mem _ hy)
    have hll := loL_len (up := up) (l := l) (n := n) (s := s) (fun y hy => (h' y hy).1)
    have hhl := hiL_len (up := up) (l := l) (n := n) (s := s) (fun y hy => (h' y hy).1)
    have hln := loL_nn (up := up) (l := l) (n := n) (s := s) h'
    have hcl := castL_len x.2.2
    have hbe : sg up * (l - (x.1 : Rat)) ≤ 0 → loL up l n s = List.replicate n 0 ∧ hiL up l n s = List.replicate n 0 := fun hle =>
      behindL fun y hy => by have := hp1 y hy; grind
    rw [loL_cons, hiL_cons, shareP_cons] at *
    simp only at *
    rcases tri (sg up * (l - (x.1 : Rat))) 0 with hd | hd | hd
    · obtain ⟨e1, e2⟩ := hbe (by grind)
      rw [if_neg (by grind), e1, zeros_addL, replicate_sum] at h0
      rw [if_neg (by grind), e2, zeros_addL, replicate_sum] at h1
      have : q = 0 := by grind
      subst this
      rw [if_neg (by grind), if_neg (by grind), e1, e2, gEnd_zero hx2]
      simp only
      rw [shareP_zero h', hx1]
      simp only
      rw [zeros_addL]
      exact ⟨TG.refl _, replicate_sum n⟩
    · obtain ⟨e1, e2⟩ := hbe (by grind)
      have hz : ∀ a : List Rat, a.length = n → addL a (List.replicate n 0) = a := fun a ha => by have := addL_zero a; rwa [ha] at this
      rw [if_neg (by grind), e1, zeros_addL, replicate_sum] at h0
      rw [if_pos (by grind), e2, hz _ (by omega)] at h1
      obtain ⟨g1, g2, g3, g4⟩ := gEnd_spec hx2 h0
      have hr : (gEnd x.2.2 q).2 = 0 := by
        rcases tri 0 (gEnd x.2.2 q).2 with h5 | h5 | h5
        · have := g4 h5; rw [this] at g3; grind
        · exact h5.symm
        · grind
      have hlen := gEnd_len x.2.2 q
      rw [if_neg (by grind), if_pos (by grind), e1, e2, hr, shareP_zero h']
      simp only
      rw [zeros_addL, hz _ (by omega), hz _ (by omega)]
      rw [hx1] at g1
      refine ⟨g1, ?_⟩
      rw [hr] at g3; grind
    · rw [if_pos hd, addL_sum (by omega)] at h0
      rw [if_pos (by grind), addL_sum (by omega)] at h1
      have hga := gEnd_all (q := q) hx2 (by grind)
      rw [if_pos hd, if_pos (by grind), hga]
      simp only
      obtain ⟨t1, t2⟩ := share_tg (up := up) (l := l) (n := n) (s := s) (q := q - (castL x.2.2).sum) h' hp2 (by grind) (by grind)
      have hsl := shareP_len n s (q - (castL x.2.2).sum) (fun y hy => (h' y hy).1)
      refine ⟨t1.add (by omega), ?_⟩
      rw [addL_sum (by omega), t2]; grind
#print axioms share_tg
end Go.Proofs.YtlaemhigmgmgjaaGreat
/- Plain: a stack holds what its curves hold, price by price; no division of a quantity is better than the stack's. No condition. -/
namespace Go.Proofs.YtlaemhigmgmgjaaGreat
set_option linter.unusedVariables false
set_option linter.unusedSimpArgs false

/-! ### Sums over steps, weighed by their price -/
def wC (g : Int → Rat) : List (Int × Int) → Rat
  | [] => 0
  | s :: r => g s.2 * (s.1 : Rat) + wC g r
theorem wC_cons (g : Int → Rat) (s : Int × Int) (r : List (Int × Int)) : wC g (s :: r) = g s.2 * (s.1 : Rat) + wC g r := rfl
theorem least_w (up : Bool) (l : Rat) : ∀ (c : List (Int × Int)), leastC up l c = wC (fun p => if 0 < sg up * (l - (p : Rat)) then 1 else 0) c
  | [] => rfl
  | s :: r => by rw [leastC_cons, wC_cons, least_w up l r]; split <;> grind
theorem most_w (up : Bool) (l : Rat) : ∀ (c : List (Int × Int)), mostC up l c = wC (fun p => if 0 ≤ sg up * (l - (p : Rat)) then 1 else 0) c
  | [] => rfl
  | s :: r => by rw [mostC_cons, wC_cons, most_w up l r]; split <;> grind
theorem v_w (up : Bool) (l : Rat) : ∀ (c : List (Int × Int)), vC up l c = wC (fun p => if 0 ≤ sg up * (l - (p : Rat)) then sg up * (l - (p : Rat)) else 0) c
  | [] => rfl
  | s :: r => by rw [vC_cons, wC_cons, v_w up l r]; split <;> grind
theorem tot_w : ∀ (c : List (Int × Int)), totC c = wC (fun _ => 1) c
  | [] => rfl
  | s :: r => by rw [totC_cons, wC_cons, tot_w r]; grind
theorem tot_qty : ∀ (c : List (Int × Int)), totC c = ((qtySum c : Int) : Rat)
  | [] => rfl
  | s :: r => by
    rw [totC_cons, tot_qty r, qtySum_cons]
    have : ((s.1 + qtySum r : Int) : Rat) = (s.1 : Rat) + ((qtySum r : Int) : Rat) := Rat.intCast_add _ _
    rw [this]

/-! ### Rational sums over lists -/
theorem rsum_zero {α : Type} : ∀ (l : List α), (l.map (fun _ => (0 : Rat))).sum = 0
  | [] => rfl
  | _ :: r => by rw [List.map_cons, List.sum_cons, rsum_zero r]; grind
theorem rsum_add {α : Type} (f g : α → Rat) : ∀ (l : List α), (l.map (fun x => f x + g x)).sum = (l.map f).sum + (l.map g).sum
  | [] => by simp; grind
  | a :: r => by simp only [List.map_cons, List.sum_cons]; rw [rsum_add f g r]; grind
theorem rsum_swap {α β : Type} (f : α → β → Rat) (K : List β) : ∀ (l : List α), (l.map (fun x => (K.map (fun y => f x y)).sum)).sum = (K.map (fun y => (l.map (fun x => f x y)).sum)).sum
  | [] => by simp only [List.map_nil, List.sum_nil]; exact (rsum_zero K).symm
  | a :: r => by
    simp only [List.map_cons, List.sum_cons]
    rw [rsum_swap f K r, ← rsum_add]
theorem rsum_mul {α : Type} (a : Rat) (f : α → Rat) : ∀ (l : List α), (l.map (fun x => a * f x)).sum = a * (l.map f).sum
  | [] => by simp
  | b :: r => by simp only [List.map_cons, List.sum_cons]; rw [rsum_mul a f r]; grind
theorem rsum_cast {α : Type} (f : α → Int) : ∀ (l : List α), (((l.map f).sum : Int) : Rat) = (l.map (fun x => ((f x : Int) : Rat))).sum
  | [] => rfl
  | b :: r => by
    simp only [List.map_cons, List.sum_cons]
    rw [← rsum_cast f r]; exact Rat.intCast_add _ _
theorem rsum_one {g : Int → Rat} {p : Int} {x : Rat} : ∀ {P : List Int}, P.Pairwise (fun a b => a ≠ b) → (P.map (fun q => g q * (if p = q then x else 0))).sum = if p ∈ P then g p * x else 0
  | [], _ => by simp
  | a :: r, h => by
    obtain ⟨h1, h2⟩ := List.pairwise_cons.1 h
    have ih := rsum_one (g := g) (p := p) (x := x) h2
    simp only [List.map_cons, List.sum_cons, ih]
    by_cases e : p = a
    · subst e
      have : p ∉ r := fun hp => h1 p hp rfl
      simp [this]; grind
    · simp [e]; grind
theorem w_qAt {g : Int → Rat} {P : List Int} (hP : P.Pairwise (fun a b => a ≠ b)) : ∀ {c : Crv}, (∀ s ∈ c, s.2 ∈ P) → (P.map (fun p => g p * ((qAt c p : Int) : Rat))).sum = wC g c
  | [], _ => by
    have : (fun p => g p * ((qAt [] p : Int) : Rat)) = fun _ => 0 := by funext p; rw [qAt_nil]; show g p * 0 = 0; grind
    rw [this, rsum_zero]; rfl
  | s :: c, h => by
    have e : (fun p => g p * ((qAt (s :: c) p : Int) : Rat)) = (fun p => g p * (if s.2 = p then (s.1 : Rat) else 0) + g p * ((qAt c p : Int) : Rat)) := by
      funext p
      rw [qAt_cons]
      by_cases hp : s.2 = p
      · rw [if_pos hp, if_pos hp, Rat.intCast_add]; grind
      · rw [if_neg hp, if_neg hp, Rat.intCast_add]; show g p * (0 + _) = _; grind
    rw [e, rsum_add, rsum_one hP, if_pos (h s (by simp)), w_qAt hP (fun t ht => h t (List.mem_cons_of_mem _ ht)), wC_cons]

/-! ### The stack -/
def pairsS (S : List Lv) : List (Int × Int) := S.map (fun x => (x.2.1, x.1))
theorem wC_pairs (g : Int → Rat) (L : List Crv) : ∀ (P : List Int), wC g (pairsS (P.map (lvl L))) = (P.map (fun p => (L.map (fun c => g p * ((qAt c p : Int) : Rat))).sum)).sum
  | [] => rfl
  | p :: P => by
    have ih := wC_pairs g L P
    unfold pairsS at ih ⊢
    simp only [List.map_cons, List.sum_cons] at ih ⊢
    rw [wC_cons, ih]
    congr 1
    show g p * (((L.map (fun c => qAt c p)).sum : Int) : Rat) = _
    rw [rsum_cast, ← rsum_mul]
/-- The exchange: whatever is summed over the stack's levels is summed over all steps of all curves. -/
theorem stack_w (g : Int → Rat) (up : Bool) (L : List Crv) : wC g (pairsS (stackOf up L)) = (L.map (wC g)).sum := by
  rw [stackOf_prs, wC_pairs, rsum_swap]
  congr 1
  refine List.map_congr_left fun c hc => ?_
  exact w_qAt (prs_apart up L) (fun s hs => mem_prs.2 ⟨c, hc, s, hs, rfl⟩)
theorem stack_least (up : Bool) (l : Rat) (L : List Crv) : leastC up l (pairsS (stackOf up L)) = (L.map (leastC up l)).sum := by
  rw [least_w, stack_w]; congr 1; exact List.map_congr_left fun c _ => (least_w up l c).symm
theorem stack_most (up : Bool) (l : Rat) (L : List Crv) : mostC up l (pairsS (stackOf up L)) = (L.map (mostC up l)).sum := by
  rw [most_w, stack_w]; congr 1; exact List.map_congr_left fun c _ => (most_w up l c).symm
theorem stack_v (up : Bool) (l : Rat) (L : List Crv) : vC up l (pairsS (stackOf up L)) = (L.map (vC up l)).sum := by
  rw [v_w, stack_w]; congr 1; exact List.map_congr_left fun c _ => (v_w up l c).symm
theorem stack_tot (up : Bool) (L : List Crv) : totC (pairsS (stackOf up L)) = (L.map totC).sum := by
  rw [tot_w, stack_w]; congr 1; exact List.map_congr_left fun c _ => (tot_w c).symm
theorem stack_sorted (up : Bool) (L : List Crv) : (pairsS (stackOf up L)).Pairwise (fun s t => afterOf up s.2 t.2 = true) := by
  unfold pairsS
  rw [stackOf_prs, List.map_map, List.pairwise_map]
  exact prs_sorted up L
theorem stack_pos {up : Bool} {L : List Crv} (hv : Valid up L) : ∀ s ∈ pairsS (stackOf up L), 0 < s.1 := by
  intro s hs
  unfold pairsS at hs
  rw [stackOf_prs, List.map_map] at hs
  obtain ⟨p, hp, rfl⟩ := List.mem_map.1 hs
  exact parts_pos hv hp
theorem crv_pos {up : Bool} {L : List Crv} (hv : Valid up L) : ∀ c ∈ L, ∀ s ∈ c, 0 < s.1 := fun c hc s hs => by
  have := (curveE_in (hv.2 c hc)).2.2 s hs
  unfold StepIn at this
  omega
theorem lo_map (up : Bool) (l : Rat) (L : List Crv) : ∀ (P : List Int), loL up l L.length (P.map (lvl L)) = L.map (fun c => (P.map (fun (p : Int) => (if 0 < sg up * (l - (p : Rat)) then (1 : Rat) else 0) * ((qAt c p : Int) : Rat))).sum)
  | [] => by simp only [List.map_nil, List.sum_nil, loL]; exact (List.map_const' ..).symm
  | p :: P => by
    rw [List.map_cons, loL_cons, lo_map up l L P]
    have e : (if 0 < sg up * (l - (((lvl L p).1 : Int) : Rat)) then castL (lvl L p).2.2 else List.replicate L.length 0) = L.map (fun c => (if 0 < sg up * (l - (p : Rat)) then (1 : Rat) else 0) * ((qAt c p : Int) : Rat)) := by
      show (if 0 < sg up * (l - (p : Rat)) then castL (partsAt L p) else List.replicate L.length 0) = _
      by_cases h : 0 < sg up * (l - (p : Rat))
      · simp only [if_pos h]
        unfold castL partsAt
        rw [List.map_map]
        refine List.map_congr_left fun c _ => ?_
        show ((qAt c p : Int) : Rat) = 1 * _
        grind
      · simp only [if_neg h]
        rw [← List.map_const', ]
        refine List.map_congr_left fun c _ => ?_
        show (0 : Rat) = 0 * _
        grind
    rw [e]
    unfold addL
    rw [List.zipWith_map, List.zipWith_self]
    refine List.map_congr_left fun c _ => ?_
    simp only [List.map_cons, List.sum_cons]
theorem hi_map (up : Bool) (l : Rat) (L : List Crv) : ∀ (P : List Int), hiL up l L.length (P.map (lvl L)) = L.map (fun c => (P.map (fun (p : Int) => (if 0 ≤ sg up * (l - (p : Rat)) then (1 : Rat) else 0) * ((qAt c p : Int) : Rat))).sum)
  | [] => by simp only [List.map_nil, List.sum_nil, hiL]; exact (List.map_const' ..).symm
  | p :: P => by
    rw [List.map_cons, hiL_cons, hi_map up l L P]
    have e : (if 0 ≤ sg up * (l - (((lvl L p).1 : Int) : Rat)) then castL (lvl L p).2.2 else List.replicate L.length 0) = L.map (fun c => (if 0 ≤ sg up * (l - (p : Rat)) then (1 : Rat) else 0) * ((qAt c p : Int) : Rat)) := by
      show (if 0 ≤ sg up * (l - (p : Rat)) then castL (partsAt L p) else List.replicate L.length 0) = _
      by_cases h : 0 ≤ sg up * (l - (p : Rat))
      · simp only [if_pos h]
        unfold castL partsAt
        rw [List.map_map]
        refine List.map_congr_left fun c _ => ?_
        show ((qAt c p : Int) : Rat) = 1 * _
        grind
      · simp only [if_neg h]
        rw [← List.map_const', ]
        refine List.map_congr_left fun c _ => ?_
        show (0 : Rat) = 0 * _
        grind
    rw [e]
    unfold addL
    rw [List.zipWith_map, List.zipWith_self]
    refine List.map_congr_left fun c _ => ?_
    simp only [List.map_cons, List.sum_cons]
theorem lo_stack (up : Bool) (l : Rat) (L : List Crv) : loL up l L.length (stackOf up L) = L.map (leastC up l) := by
  rw [stackOf_prs, lo_map]
  refine List.map_congr_left fun c hc => ?_
  rw [least_w]
  exact w_qAt (g := fun p => if 0 < sg up * (l - (p : Rat)) then 1 else 0) (prs_apart up L) (fun s hs => mem_prs.2 ⟨c, hc, s, hs, rfl⟩)
theorem hi_stack (up : Bool) (l : Rat) (L : List Crv) : hiL up l L.length (stackOf up L) = L.map (mostC up l) := by
  rw [stackOf_prs, hi_map]
  refine List.map_congr_left fun c hc => ?_
  rw [most_w]
  exact w_qAt (g := fun p => if 0 ≤ sg up * (l - (p : Rat)) then 1 else 0) (prs_apart up L) (fun s hs => mem_prs.2 ⟨c, hc, s, hs, rfl⟩)
/-- What Share hands back of a valid stack. -/
def shareX (up : Bool) (L : List Crv) (q : Rat) : List Rat := (shareP L.length (stackOf up L) q).1
theorem stack_parts {up : Bool} {L : List Crv} (hv : Valid up L) : ∀ x ∈ stackOf up L, x.2.2.length = L.length ∧ ∀ p ∈ x.2.2, 0 ≤ p := by
  intro x hx
  rw [stackOf_prs] at hx
  obtain ⟨p, hp, rfl⟩ := List.mem_map.1 hx
  exact ⟨partsAt_len L p, fun y hy => (parts_in hv p y hy).1⟩
theorem shareX_len {up : Bool} {L : List Crv} (hv : Valid up L) (q : Rat) : (shareX up L q).length = L.length :=
  shareP_len _ _ _ (fun x hx => (stack_parts hv x hx).1)
theorem stack_nil {up : Bool} {L : List Crv} (hv : Valid up L) : stackOf up L = [] ↔ L = [] := by
  constructor
  · intro h
    cases L with
    | nil => rfl
    | cons c L =>
      have h1 := (curveE_in (hv.2 c (by simp))).1
      obtain ⟨s, hs⟩ : ∃ s, s ∈ c := ⟨c[0], List.getElem_mem _⟩
      have h2 : s.2 ∈ prs up (c :: L) := mem_prs.2 ⟨c, by simp, s, hs, rfl⟩
      rw [stackOf_prs] at h
      rw [List.map_eq_nil_iff.1 h] at h2
      simp at h2
  · rintro rfl; rfl
theorem shareQ_stack {up : Bool} {L : List Crv} (hv : Valid up L) (q : Rat) (hne : stackOf up L ≠ []) : shareQ (stackOf up L) q = shareX up L q := by
  have h0 : 0 < (stackOf up L).length := List.length_pos_iff.2 hne
  have h1 : (lvAt (stackOf up L) 0).2.2.length = L.length := by rw [lvAt_eq h0]; exact (stack_parts hv _ (List.getElem_mem h0)).1
  have hl := shareX_len hv q
  unfold shareQ
  rw [h1, shareAll_eq L.length _ _ _ (fun x hx => (stack_parts hv x hx).1) (by simp)]
  show addL _ (shareX up L q) = _
  have := zero_addL (shareX up L q)
  rwa [hl] at this
/-- What is divided, at whatever price the quantity lies. -/
theorem share_law {up : Bool} {L : List Crv} (hv : Valid up L) (l q : Rat) (h0 : (L.map (leastC up l)).sum ≤ q) (h1 : q ≤ (L.map (mostC up l)).sum) :
    TG (L.map (leastC up l)) (shareX up L q) (L.map (mostC up l)) ∧ (shareX up L q).sum = q := by
  have hp : (stackOf up L).Pairwise (fun a b => sg up * (a.1 : Rat) < sg up * (b.1 : Rat)) := by
    rw [stackOf_prs, List.pairwise_map]
    exact (prs_sorted up L).imp (fun h => sg_after h)
  have := share_tg (up := up) (l := l) (n := L.length) (s := stackOf up L) (q := q) (stack_parts hv) hp (by rw [lo_stack]; exact h0) (by rw [hi_stack]; exact h1)
  rw [lo_stack, hi_stack] at this
  exact this
/-- A price at which a quantity lies. -/
theorem price_of {up : Bool} : ∀ {c : List (Int × Int)} {q : Rat}, (∀ s ∈ c, 0 < s.1) → c.Pairwise (fun s t => afterOf up s.2 t.2 = true) → 0 ≤ q → q ≤ totC c → c ≠ [] → ∃ t ∈ c, leastC up (t.2 : Rat) c ≤ q ∧ q ≤ mostC up (t.2 : Rat) c
  | [], _, _, _, _, _, hne => absurd rfl hne
  | s :: r, q, h, hp, h0, h1, _ => by
    obtain ⟨hp1, hp2⟩ := List.pairwise_cons.1 hp
    have hs : (0 : Rat) < (s.1 : Rat) := by exact_mod_cast h s (by simp)
    rw [totC_cons] at h1
    have hself : q ≤ (s.1 : Rat) → ∃ t ∈ s :: r, leastC up (t.2 : Rat) (s :: r) ≤ q ∧ q ≤ mostC up (t.2 : Rat) (s :: r) := by
      intro hq
      have hb := behind (up := up) (l := (s.2 : Rat)) (c := r) (fun t ht => by have := sg_after (hp1 t ht); grind)
      refine ⟨s, by simp, ?_, ?_⟩
      · rw [leastC_cons, if_neg (by grind), hb.1]; grind
      · rw [mostC_cons, if_pos (by grind), hb.2.1]; grind
    by_cases hq : q ≤ (s.1 : Rat)
    · exact hself hq
    · have hr : r ≠ [] := by
        rintro rfl
        have : totC [] = 0 := rfl
        grind
      obtain ⟨t, ht, a, b⟩ := price_of (up := up) (c := r) (q := q - (s.1 : Rat)) (fun t ht => h t (List.mem_cons_of_mem _ ht)) hp2 (by grind) (by grind) hr
      have hst := sg_after (hp1 t ht)
      refine ⟨t, List.mem_cons_of_mem _ ht, ?_, ?_⟩
      · rw [leastC_cons, if_pos (by grind)]; grind
      · rw [mostC_cons, if_pos (by grind)]; grind
theorem price_any {up : Bool} {c : List (Int × Int)} {q : Rat} (h : ∀ s ∈ c, 0 < s.1) (hp : c.Pairwise (fun s t => afterOf up s.2 t.2 = true)) (h0 : 0 ≤ q) (h1 : q ≤ totC c) : ∃ l : Rat, leastC up l c ≤ q ∧ q ≤ mostC up l c := by
  by_cases hc : c = []
  · subst hc
    have : totC [] = 0 := rfl
    exact ⟨0, by show 0 ≤ q; exact h0, by show q ≤ 0; grind⟩
  · obtain ⟨t, _, a, b⟩ := price_of h hp h0 h1 hc
    exact ⟨_, a, b⟩
theorem costSt_eq : ∀ (s : List Lv) (a q : Rat), (costSt s (a, q)).1 = a + costC (pairsS s) q
  | [], a, q => by show a = a + 0; grind
  | x :: s, a, q => by
    show (costSt s (a + minQ q (x.2.1 : Rat) * (x.1 : Rat), q - minQ q (x.2.1 : Rat))).1 = a + costC ((x.2.1, x.1) :: pairsS s) q
    rw [costSt_eq s, costC_cons]
    grind
theorem costQ_eq (s : List Lv) (q : Rat) : costQ s q = costC (pairsS s) q := by
  unfold costQ
  rw [costSt_eq]; grind

/-! ### Divisions -/
def costs (L : List Crv) (y : List Rat) : Rat := (List.zipWith costC L y).sum
theorem costs_cons (c : Crv) (L : List Crv) (x : Rat) (y : List Rat) : costs (c :: L) (x :: y) = costC c x + costs L y := rfl
theorem costs_weak (up : Bool) (l : Rat) : ∀ {L : List Crv} {y : List Rat}, (∀ c ∈ L, ∀ s ∈ c, 0 < s.1) → y.length = L.length → (∀ (i : Nat) (h1 : i < L.length) (h2 : i < y.length), 0 ≤ y[i] ∧ y[i] ≤ totC L[i]) →
    sg up * l * y.sum - (L.map (vC up l)).sum ≤ sg up * costs L y
  | [], [], _, _, _ => by show sg up * l * 0 - 0 ≤ sg up * 0; grind
  | [], _ :: _, _, h, _ => by simp at h
  | _ :: _, [], _, h, _ => by simp at h
  | c :: L, x :: y, hp, hl, hb => by
    have h0 := hb 0 (by simp) (by simp)
    simp only [List.getElem_cons_zero] at h0
    have h1 := cost_weak up l (c := c) (fun s hs => Int.le_of_lt (hp c (by simp) s hs)) h0.1 h0.2
    have h2 := costs_weak up l (L := L) (y := y) (fun c hc => hp c (List.mem_cons_of_mem _ hc)) (by simpa using hl) (fun i h1 h2 => by have := hb (i + 1) (by simpa using h1) (by simpa using h2); simpa using this)
    rw [costs_cons, List.sum_cons, List.map_cons, List.sum_cons]
    grind
theorem costs_tight (up : Bool) (l : Rat) : ∀ {L : List Crv} {y : List Rat}, (∀ c ∈ L, ∀ s ∈ c, 0 < s.1) → (∀ c ∈ L, c.Pairwise (fun s t => afterOf up s.2 t.2 = true)) → y.length = L.length → (∀ (i : Nat) (h1 : i < L.length) (h2 : i < y.length), 0 ≤ y[i] ∧ y[i] ≤ totC L[i]) →
    (sg up * costs L y = sg up * l * y.sum - (L.map (vC up l)).sum ↔ ∀ (i : Nat) (h1 : i < L.length) (h2 : i < y.length), leastC up l L[i] ≤ y[i] ∧ y[i] ≤ mostC up l L[i])
  | [], [], _, _, _, _ => by
    constructor
    · intro _ i h1; exact absurd h1 (by simp)
    · intro _; show sg up * 0 = sg up * l * 0 - 0; grind
  | [], _ :: _, _, _, h, _ => by simp at h
  | _ :: _, [], _, _, h, _ => by simp at h
  | c :: L, x :: y, hp, hs, hl, hb => by
    have h0 := hb 0 (by simp) (by simp)
    simp only [List.getElem_cons_zero] at h0
    have hb' : ∀ (i : Nat) (h1 : i < L.length) (h2 : i < y.length), 0 ≤ y[i] ∧ y[i] ≤ totC L[i] := fun i h1 h2 => by have := hb (i + 1) (by simpa using h1) (by simpa using h2); simpa using this
    have hp' : ∀ c ∈ L, ∀ s ∈ c, 0 < s.1 := fun c hc => hp c (List.mem_cons_of_mem _ hc)
    have h1 := cost_weak up l (c := c) (fun s hs => Int.le_of_lt (hp c (by simp) s hs)) h0.1 h0.2
    have t1 := cost_tight up l (c := c) (fun s hs => hp c (by simp) s hs) (hs c (by simp)) h0.1 h0.2
    have h2 := costs_weak up l hp' (by simpa using hl) hb'
    have t2 := costs_tight up l hp' (fun c hc => hs c (List.mem_cons_of_mem _ hc)) (by simpa using hl) hb'
    rw [costs_cons, List.sum_cons, List.map_cons, List.sum_cons]
    have e : (sg up * (costC c x + costs L y) = sg up * l * (x + y.sum) - (vC up l c + (L.map (vC up l)).sum)) ↔ (sg up * costC c x = sg up * l * x - vC up l c) ∧ (sg up * costs L y = sg up * l * y.sum - (L.map (vC up l)).sum) := by
      generalize costC c x = A at *
      generalize costs L y = B at *
      generalize vC up l c = C at *
      generalize (L.map (vC up l)).sum = D at *
      generalize y.sum = Y at *
      clear t1 t2
      constructor
      · intro h; constructor <;> grind
      · rintro ⟨a, b⟩; grind
    rw [e, t1, t2]
    constructor
    · rintro ⟨a, b⟩ i h1 h2
      cases i with
      | zero => exact a
      | succ i => simpa using b i (by simpa using h1) (by simpa using h2)
    · intro h
      refine ⟨h 0 (by simp) (by simp), fun i h1 h2 => ?_⟩
      exact h (i + 1) (by simpa using h1) (by simpa using h2)
theorem sum_bounds : ∀ {L : List Crv} {y : List Rat}, y.length = L.length → (∀ (i : Nat) (h1 : i < L.length) (h2 : i < y.length), 0 ≤ y[i] ∧ y[i] ≤ totC L[i]) → 0 ≤ y.sum ∧ y.sum ≤ (L.map totC).sum
  | [], [], _, _ => ⟨Rat.le_refl, Rat.le_refl⟩
  | [], _ :: _, h, _ => by simp at h
  | _ :: _, [], h, _ => by simp at h
  | c :: L, x :: y, hl, hb => by
    have h0 := hb 0 (by simp) (by simp)
    simp only [List.getElem_cons_zero] at h0
    have := sum_bounds (L := L) (y := y) (by simpa using hl) (fun i h1 h2 => by have := hb (i + 1) (by simpa using h1) (by simpa using h2); simpa using this)
    rw [List.sum_cons, List.map_cons, List.sum_cons]
    grind
theorem total_tot {up : Bool} {L : List Crv} (hv : Valid up L) : ((totalE (stackOf up L) : Int) : Rat) = (L.map totC).sum := by
  rw [total_stack hv, rsum_cast]
  congr 1
  exact List.map_congr_left fun c _ => (tot_qty c).symm
/-- The law: what Share hands back costs what the stack costs, no division costs less, and of those that cost as much it is the least in order. -/
theorem opt_law {up : Bool} {L : List Crv} (hv : Valid up L) (row : List Rat) (hl : row.length = L.length) (hb : ∀ (i : Nat) (h1 : i < L.length) (h2 : i < row.length), 0 ≤ row[i] ∧ row[i] ≤ totC L[i]) :
    0 ≤ row.sum ∧ row.sum ≤ ((totalE (stackOf up L) : Int) : Rat) ∧ (∀ (i : Nat) (h1 : i < L.length) (h2 : i < (shareX up L row.sum).length), 0 ≤ (shareX up L row.sum)[i] ∧ (shareX up L row.sum)[i] ≤ totC L[i]) ∧
      (shareX up L row.sum).sum = row.sum ∧ costs L (shareX up L row.sum) = costQ (stackOf up L) row.sum ∧ sg up * costQ (stackOf up L) row.sum ≤ sg up * costs L row ∧
      (costQ (stackOf up L) row.sum = costs L row → ∀ (i : Nat) (h1 : i < (shareX up L row.sum).length) (h2 : i < row.length), (∀ j (hj : j < i), (shareX up L row.sum)[j] = row[j]) → (shareX up L row.sum)[i] ≠ row[i] → (shareX up L row.sum)[i] < row[i]) := by
  obtain ⟨b0, b1⟩ := sum_bounds hl hb
  have hpos := crv_pos hv
  have hsor : ∀ c ∈ L, c.Pairwise (fun s t => afterOf up s.2 t.2 = true) := fun c hc => curveE_sorted (hv.2 c hc)
  obtain ⟨l, l0, l1⟩ := price_any (up := up) (q := row.sum) (stack_pos hv) (stack_sorted up L) b0 (by rw [stack_tot]; exact b1)
  have htS := (cost_tight up l (stack_pos hv) (stack_sorted up L) b0 (by rw [stack_tot]; exact b1)).2 ⟨l0, l1⟩
  rw [stack_v, ← costQ_eq] at htS
  rw [stack_least] at l0
  rw [stack_most] at l1
  obtain ⟨tg, ts⟩ := share_law hv l row.sum l0 l1
  have hxl := shareX_len hv row.sum
  have hxb : ∀ (i : Nat) (h1 : i < L.length) (h2 : i < (shareX up L row.sum).length), leastC up l L[i] ≤ (shareX up L row.sum)[i] ∧ (shareX up L row.sum)[i] ≤ mostC up l L[i] := fun i h1 h2 => by
    have := tg.get i (by simpa using h1) h2 (by simpa using h1)
    simpa using this
  have hx0 : ∀ (i : Nat) (h1 : i < L.length) (h2 : i < (shareX up L row.sum).length), 0 ≤ (shareX up L row.sum)[i] ∧ (shareX up L row.sum)[i] ≤ totC L[i] := fun i h1 h2 => by
    have h3 := hxb i h1 h2
    have h4 := least_most (up := up) (l := l) (c := L[i]) (fun s hs => Int.le_of_lt (hpos _ (List.getElem_mem h1) s hs))
    grind
  have hct := (costs_tight up l hpos hsor hxl hx0).2 hxb
  rw [ts] at hct
  have hsg : sg up * sg up = 1 := by unfold sg; cases up <;> simp <;> grind
  have hcx : costs L (shareX up L row.sum) = costQ (stackOf up L) row.sum := by
    have h3 : sg up * costs L (shareX up L row.sum) = sg up * costQ (stackOf up L) row.sum := by rw [hct, htS]
    have h4 : sg up * (sg up * costs L (shareX up L row.sum)) = sg up * (sg up * costQ (stackOf up L) row.sum) := by rw [h3]
    grind
  refine ⟨b0, by rw [total_tot hv]; exact b1, hx0, ts, hcx, ?_, fun heq => ?_⟩
  · have := costs_weak up l hpos hl hb
    rw [htS]; exact this
  · have hrt := (costs_tight up l hpos hsor hl hb).1 (by rw [← heq]; exact htS)
    exact tg.lex (by omega) ts (fun i h1 h2 h3 => by
      have := hrt i (by simpa using h1) h2
      simpa using this)
#print axioms opt_law
end Go.Proofs.YtlaemhigmgmgjaaGreat
/- Plain: what curves want at a price, together; taking all of a stack, and nothing. No condition. -/
namespace Go.Proofs.YtlaemhigmgmgjaaGreat
set_option linter.unusedVariables false
set_option linter.unusedSimpArgs false

/-- How a price lies to another, as a curve sees it. -/
def wayQ (up : Bool) (p : Int) (l : Rat) : Int := if up then cmpQ (p : Rat) l else - cmpQ (p : Rat) l
theorem cmpQ_lt {p q : Rat} : cmpQ p q < 0 ↔ p < q := by
  unfold cmpQ
  by_cases h : p ≤ q
  · rw [if_pos h]
    by_cases h2 : q ≤ p
    · rw [if_pos h2]; simp; grind
    · rw [if_neg h2]; simp; grind
  · rw [if_neg h]; simp; grind
theorem cmpQ_gt {p q : Rat} : 0 < cmpQ p q ↔ q < p := by
  unfold cmpQ
  by_cases h : p ≤ q
  · rw [if_pos h]
    by_cases h2 : q ≤ p
    · rw [if_pos h2]; simp; grind
    · rw [if_neg h2]; simp; grind
  · rw [if_neg h]; simp; grind
theorem way_lt {up : Bool} {p : Int} {l : Rat} : wayQ up p l < 0 ↔ 0 < sg up * (l - (p : Rat)) := by
  unfold wayQ sg
  cases up
  · simp only [Bool.false_eq_true, if_false]
    rw [show (-cmpQ (p : Rat) l < 0) ↔ 0 < cmpQ (p : Rat) l by omega, cmpQ_gt]; grind
  · simp only [if_true]; rw [cmpQ_lt]; grind
theorem way_le {up : Bool} {p : Int} {l : Rat} : wayQ up p l ≤ 0 ↔ 0 ≤ sg up * (l - (p : Rat)) := by
  unfold wayQ sg
  cases up
  · simp only [Bool.false_eq_true, if_false]
    rw [show (-cmpQ (p : Rat) l ≤ 0) ↔ ¬ cmpQ (p : Rat) l < 0 by omega, cmpQ_lt]; grind
  · simp only [if_true]
    rw [show (cmpQ (p : Rat) l ≤ 0) ↔ ¬ 0 < cmpQ (p : Rat) l by omega, cmpQ_gt]; grind
def leastI (up : Bool) (l : Rat) : List (Int × Int) → Int
  | [] => 0
  | s :: r => (if wayQ up s.2 l < 0 then s.1 else 0) + leastI up l r
def mostI (up : Bool) (l : Rat) : List (Int × Int) → Int
  | [] => 0
  | s :: r => (if wayQ up s.2 l ≤ 0 then s.1 else 0) + mostI up l r
theorem leastI_cons (up : Bool) (l : Rat) (s : Int × Int) (r : List (Int × Int)) : leastI up l (s :: r) = (if wayQ up s.2 l < 0 then s.1 else 0) + leastI up l r := rfl
theorem mostI_cons (up : Bool) (l : Rat) (s : Int × Int) (r : List (Int × Int)) : mostI up l (s :: r) = (if wayQ up s.2 l ≤ 0 then s.1 else 0) + mostI up l r := rfl
theorem leastI_snoc (up : Bool) (l : Rat) (s : Int × Int) : ∀ (r : List (Int × Int)), leastI up l (r ++ [s]) = leastI up l r + (if wayQ up s.2 l < 0 then s.1 else 0)
  | [] => by rw [List.nil_append, leastI_cons]; simp [leastI]
  | a :: r => by rw [List.cons_append, leastI_cons, leastI_cons, leastI_snoc up l s r]; omega
theorem mostI_snoc (up : Bool) (l : Rat) (s : Int × Int) : ∀ (r : List (Int × Int)), mostI up l (r ++ [s]) = mostI up l r + (if wayQ up s.2 l ≤ 0 then s.1 else 0)
  | [] => by rw [List.nil_append, mostI_cons]; simp [mostI]
  | a :: r => by rw [List.cons_append, mostI_cons, mostI_cons, mostI_snoc up l s r]; omega
theorem leastI_cast (up : Bool) (l : Rat) : ∀ (c : List (Int × Int)), ((leastI up l c : Int) : Rat) = leastC up l c
  | [] => rfl
  | s :: r => by
    rw [leastI_cons, leastC_cons, Rat.intCast_add, leastI_cast up l r]
    by_cases h : wayQ up s.2 l < 0
    · rw [if_pos h, if_pos (way_lt.1 h)]
    · rw [if_neg h, if_neg (fun h2 => h (way_lt.2 h2))]; rfl
theorem mostI_cast (up : Bool) (l : Rat) : ∀ (c : List (Int × Int)), ((mostI up l c : Int) : Rat) = mostC up l c
  | [] => rfl
  | s :: r => by
    rw [mostI_cons, mostC_cons, Rat.intCast_add, mostI_cast up l r]
    by_cases h : wayQ up s.2 l ≤ 0
    · rw [if_pos h, if_pos (way_le.1 h)]
    · rw [if_neg h, if_neg (fun h2 => h (way_le.2 h2))]; rfl
theorem cast_inj {a b : Int} (h : (a : Rat) = (b : Rat)) : a = b := by exact_mod_cast h
theorem rsum_int (f : Crv → Int) (g : Crv → Rat) (h : ∀ c, ((f c : Int) : Rat) = g c) (L : List Crv) : (((L.map f).sum : Int) : Rat) = (L.map g).sum := by
  rw [rsum_cast]; congr 1; exact List.map_congr_left fun c _ => h c
/-- The law: what the levels hold ahead of a price, and up to it, is what the curves want at it. -/
theorem agg_law (up : Bool) (L : List Crv) (l : Rat) : leastI up l (pairsS (stackOf up L)) = (L.map (leastI up l)).sum ∧ mostI up l (pairsS (stackOf up L)) = (L.map (mostI up l)).sum := by
  constructor
  · refine cast_inj ?_
    rw [leastI_cast, stack_least, rsum_int _ _ (leastI_cast up l)]
  · refine cast_inj ?_
    rw [mostI_cast, stack_most, rsum_int _ _ (mostI_cast up l)]
theorem least_mostI {up : Bool} {l : Rat} : ∀ {c : List (Int × Int)}, (∀ s ∈ c, 0 ≤ s.1) → 0 ≤ leastI up l c ∧ leastI up l c ≤ mostI up l c ∧ mostI up l c ≤ qtySum c
  | [], _ => ⟨Int.le_refl _, Int.le_refl _, Int.le_refl _⟩
  | s :: r, h => by
    have h1 := h s (by simp)
    obtain ⟨a, b, c⟩ := least_mostI (up := up) (l := l) (c := r) (fun t ht => h t (List.mem_cons_of_mem _ ht))
    rw [leastI_cons, mostI_cons, qtySum_cons]
    by_cases h2 : wayQ up s.2 l < 0
    · rw [if_pos h2, if_pos (by omega)]; omega
    · rw [if_neg h2]
      split <;> omega

/-! ### All and nothing -/
theorem eq_of_sum : ∀ {a b : List Rat}, a.length = b.length → (∀ (i : Nat) (h1 : i < a.length) (h2 : i < b.length), a[i] ≤ b[i]) → a.sum = b.sum → a = b
  | [], [], _, _, _ => rfl
  | [], _ :: _, h, _, _ => by simp at h
  | _ :: _, [], h, _, _ => by simp at h
  | x :: a, y :: b, h, hi, hs => by
    have h0 := hi 0 (by simp) (by simp)
    simp only [List.getElem_cons_zero] at h0
    have ht : ∀ (i : Nat) (h1 : i < a.length) (h2 : i < b.length), a[i] ≤ b[i] := fun i h1 h2 => by have := hi (i + 1) (by simpa using h1) (by simpa using h2); simpa using this
    have h1 := sum_le_of (a := a) (b := b) (by simpa using h) ht
    simp only [List.sum_cons] at hs
    have h2 : x = y := by grind
    rw [h2, eq_of_sum (a := a) (b := b) (by simpa using h) ht (by grind)]
theorem share_in {up : Bool} {L : List Crv} (hv : Valid up L) {q : Rat} (h0 : 0 ≤ q) (h1 : q ≤ (L.map totC).sum) :
    (shareX up L q).sum = q ∧ ∀ (i : Nat) (h1 : i < L.length) (h2 : i < (shareX up L q).length), 0 ≤ (shareX up L q)[i] ∧ (shareX up L q)[i] ≤ totC L[i] := by
  obtain ⟨l, l0, l1⟩ := price_any (up := up) (q := q) (stack_pos hv) (stack_sorted up L) h0 (by rw [stack_tot]; exact h1)
  rw [stack_least] at l0
  rw [stack_most] at l1
  obtain ⟨tg, ts⟩ := share_law hv l q l0 l1
  refine ⟨ts, fun i h1 h2 => ?_⟩
  have h3 := tg.get i (by simpa using h1) h2 (by simpa using h1)
  simp only [List.getElem_map] at h3
  have h4 := least_most (up := up) (l := l) (c := L[i]) (fun s hs => Int.le_of_lt (crv_pos hv _ (List.getElem_mem h1) s hs))
  grind
theorem tots_nn {up : Bool} {L : List Crv} (hv : Valid up L) : 0 ≤ (L.map totC).sum := by
  rw [← stack_tot (up := up)]
  exact totC_nn (fun s hs => Int.le_of_lt (stack_pos hv s hs))
theorem share_all {up : Bool} {L : List Crv} (hv : Valid up L) : shareX up L (L.map totC).sum = L.map totC := by
  obtain ⟨a, b⟩ := share_in hv (tots_nn hv) Rat.le_refl
  have hl := shareX_len hv (L.map totC).sum
  refine eq_of_sum (by simpa using hl) (fun i h1 h2 => ?_) a
  have := (b i (by simpa using h2) h1).2
  simpa using this
theorem share_none {up : Bool} {L : List Crv} (hv : Valid up L) : shareX up L 0 = List.replicate L.length 0 := by
  obtain ⟨a, b⟩ := share_in hv Rat.le_refl (tots_nn hv)
  have hl := shareX_len hv 0
  refine (eq_of_sum (by simpa using hl.symm) (fun i h1 h2 => ?_) (by rw [a, replicate_sum])).symm
  have := (b i (by omega) h2).1
  simpa using this
#print axioms share_all
#print axioms agg_law
end Go.Proofs.YtlaemhigmgmgjaaGreat
