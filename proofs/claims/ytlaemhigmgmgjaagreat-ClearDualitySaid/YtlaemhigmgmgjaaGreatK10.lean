/- Several texts of my own, joined. No condition beyond what each theorem states. -/
import Derived.Test.YtlaemhigmgmgjaaGreatK4
import Derived.Test.YtlaemhigmgmgjaaGreatK3
import Derived.Test.YtlaemhigmgmgjaaGreatK5
import Derived.Test.YtlaemhigmgmgjaaGreatK2
import Derived.Deep.Slices
import Derived.ChangeSame
import Derived.SizedLaws
import Derived.Carry
import Derived.RowKit3
import Derived.ProofKit
import Derived.OpenShut
import Derived.Test.YtlaemhigmgmgjaaGreatK9
import Derived.Test.YtlaemhigmgmgjaaGreatK6
/- step: curve, Sum: what they return. No condition. -/
namespace Go.Proofs.YtlaemhigmgmgjaaGreat
set_option linter.unusedVariables false
set_option linter.unusedSimpArgs false
open Go.RowKit

set_option maxRecDepth 100000 in
set_option maxHeartbeats 1000000 in
theorem either_calls (ok : Nat → Option Obj → Prop) (A : Option Addr) (n c : Nat) (l : List (Int × Int)) (w : World) (h : Row Kd.step ok w (.slice A n c) l) :
    Calls Tryz.prog 105 #[.slice A n c] w fun e w' => Below w.heap.size w w' ∧ e = .returned (.int .i64 (eitherE l)) := by
  have HR := Lib.hid h
  clear h
  go_enter Tryz.func105, Tryz.ntmps105
  go_wp2_with fail
  refine (check_down ok _ _ _ l _ HR.out).mono ?_
  rintro e w1 ⟨hb1, rfl⟩
  have HB1 := Lib.hid hb1
  clear hb1
  obtain ⟨d, hd⟩ : ∃ d, d = curveE downA l := ⟨_, rfl⟩
  rw [← hd]
  by_cases h0 : d = 0
  · have e : eitherE l = 0 := by unfold eitherE; rw [if_pos (hd ▸ h0)]
    have HE := Lib.hid e
    clear e hd
    subst h0
    go_wp2
    go_ret
    exact ⟨HB1.out, by rw [HE.out]; rfl⟩
  · have e : eitherE l = curveE upA l := by unfold eitherE; rw [if_neg (hd ▸ h0)]
    have HE := Lib.hid e
    have hf : (d == 0) = false := by rw [beq_eq_false_iff_ne]; exact h0
    clear e hd
    go_wp2_with fail
    refine (check_up ok _ _ _ l _ (HR.out.below HB1.out)).mono ?_
    rintro e w2 ⟨hb2, rfl⟩
    have HB2 := Lib.hid (below_next HB1.out hb2)
    clear hb2
    go_wp2
    go_ret
    exact ⟨HB2.out, by rw [HE.out]; rfl⟩

theorem qtySum_take (l : List (Int × Int)) (k : Nat) (hk : k < l.length) : qtySum (l.take (k + 1)) = qtySum (l.take k) + l[k].1 := by
  unfold qtySum
  rw [List.take_succ_eq_append_getElem hk, List.map_append, List.foldl_append]
  rfl
theorem qtySum_le (l : List (Int × Int)) (h : ∀ s ∈ l, StepIn s) : ∀ k, k ≤ l.length → 0 ≤ qtySum (l.take k) ∧ qtySum (l.take k) ≤ 1000000 * k
  | 0, _ => by simp [qtySum]
  | k + 1, hk => by
    obtain ⟨h1, h2⟩ := qtySum_le l h k (by omega)
    have h3 := h l[k] (List.getElem_mem _)
    rw [qtySum_take l k (by omega)]
    unfold StepIn at h3
    omega

set_option maxRecDepth 100000 in
set_option maxHeartbeats 2000000 in
theorem sum_calls (ok : Nat → Option Obj → Prop) (A : Option Addr) (n c : Nat) (l : List (Int × Int)) (w : World) (h : Row Kd.step ok w (.slice A n c) l) :
    Calls Tryz.prog 106 #[.slice A n c] w fun e w' => Below w.heap.size w w' ∧ e = .returned (.int .i64 (sumE l)) := by
  obtain rfl := h.len
  have HR := Lib.hid h
  clear h
  go_enter Tryz.func106, Tryz.ntmps106
  go_wp2_with fail
  refine (either_calls ok _ _ _ l _ HR.out).mono ?_
  rintro e w1 ⟨hb1, rfl⟩
  have HB1 := Lib.hid hb1
  clear hb1
  obtain ⟨d, hd⟩ : ∃ d, d = eitherE l := ⟨_, rfl⟩
  rw [← hd]
  by_cases h0 : d = 0
  · have hi := eitherE_in (hd ▸ h0)
    have e : sumE l = qtySum l := by unfold sumE; rw [if_pos (hd ▸ h0)]
    have HE := Lib.hid e
    have HI := Lib.hid hi
    clear e hd hi
    subst h0
    go_wp2_with fail
    go_loopw [3, 11] (fun sv i wr => ∃ (k : Nat) (s : Int), k ≤ l.length ∧ i = .int .i64 k ∧ sv = .int .i64 s ∧ Hid (s = qtySum (l.take k)) ∧ Hid (Below w1.heap.size w1 wr))
      (fun _ i _ => l.length - (intOf i).toNat)
    case atStart => exact ⟨0, 0, Nat.zero_le _, rfl, rfl, rfl, Below.refl _ _⟩
    case round =>
      obtain ⟨k, s, hk, rfl, rfl, HS, HBW⟩ := hrel
      by_cases hlt : k < l.length
      · obtain ⟨b, off, rfl, hq, hp, iq, ip⟩ := step_cell (HR.out.below (below_next HB1.out HBW.out)) hlt
        have hs := qtySum_le l HI.out.2.2 k hk
        rw [← HS.out] at hs
        have hsi := HI.out.2.2 l[k] (List.getElem_mem _)
        have hst := qtySum_take l k hlt
        rw [← HS.out] at hst
        have h3 := HI.out.2.1
        obtain ⟨q, hqd⟩ : ∃ q, q = l[k].1 := ⟨_, rfl⟩
        obtain ⟨p, hpd⟩ : ∃ p, p = l[k].2 := ⟨_, rfl⟩
        unfold StepIn at hsi
        rw [← hqd, ← hpd] at hsi
        rw [← hqd] at hq hst
        rw [← hpd] at hp
        have HST := Lib.hid hst
        have HB3 := Lib.hid (below_next HBW.out (below_alloc wr (.cells #[.int .i64 q, .int .i64 p] 99)))
        have hwr : IntKind.i64.wrap (s + q) = s + q := IntWalk.i64_in _ ⟨by omega, by omega⟩
        clear hqd hpd iq ip hst
        go_wp2
        go_roundw
        case rel => exact ⟨k + 1, s + q, by omega, by go_num, rfl, HST.out.symm, HB3.out⟩
        case measure => simp [intOf]; omega
      · obtain rfl : k = l.length := by omega
        have e2 : sumE l = s := by rw [HE.out, HS.out, List.take_length]
        have HE2 := Lib.hid e2
        clear e2
        go_wp2
        go_ret
        exact ⟨below_next HB1.out HBW.out, by rw [HE2.out]; rfl⟩
  · have e : sumE l = 0 := by unfold sumE; rw [if_neg (hd ▸ h0)]
    have HE := Lib.hid e
    have hf : (d == 0) = false := by rw [beq_eq_false_iff_ne]; exact h0
    clear e hd
    go_wp2
    go_ret
    exact ⟨HB1.out, by rw [HE.out]; rfl⟩
#print axioms sum_calls
end Go.Proofs.YtlaemhigmgmgjaaGreat
/- frac.Equal: what it returns. No condition beyond sizes. -/
namespace Go.Proofs.YtlaemhigmgmgjaaGreat
set_option linter.unusedVariables false
set_option linter.unusedSimpArgs false
open Go.RowKit

set_option maxRecDepth 100000 in
set_option maxHeartbeats 2000000 in
theorem fequal_calls (u v : Value) (p q : Rat) (k : Nat) (w : World) (hu : QIn (fun _ _ => True) w u p k) (hv : QIn (fun _ _ => True) w v q k) (hk : k ≤ 100000000) (hk1 : 1 ≤ k) :
    Calls Tryz.prog 33 #[u, v] w fun e w' => Below w.heap.size w w' ∧ e = .returned (.bool (decide (p = q))) := by
  obtain ⟨t0, A0, m0, c0, s0, B0, j0, d0, rfl, HU⟩ := hu.form
  obtain ⟨t1, A1, m1, c1, s1, B1, j1, d1, rfl, HV⟩ := hv.form
  obtain ⟨W, hW, g0, g1', hB, hs⟩ := two_boxes w (.cells #[.bool t0, .slice A0 m0 c0, .bool s0, .slice B0 j0 d0] 44) (.cells #[.bool t1, .slice A1 m1 c1, .bool s1, .slice B1 j1 d1] 44)
  have a0 : W.cell? ⟨w.heap.size, 0, none⟩ = some (.bool t0) := hcell g0 0 rfl
  have a1 : W.cell? ⟨w.heap.size, 1, none⟩ = some (.slice A0 m0 c0) := hcell g0 1 rfl
  have a2 : W.cell? ⟨w.heap.size, 2, none⟩ = some (.bool s0) := hcell g0 2 rfl
  have a3 : W.cell? ⟨w.heap.size, 3, none⟩ = some (.slice B0 j0 d0) := hcell g0 3 rfl
  have b0 : W.cell? ⟨w.heap.size + 1, 0, none⟩ = some (.bool t1) := hcell g1' 0 rfl
  have b1 : W.cell? ⟨w.heap.size + 1, 1, none⟩ = some (.slice A1 m1 c1) := hcell g1' 1 rfl
  have b2 : W.cell? ⟨w.heap.size + 1, 2, none⟩ = some (.bool s1) := hcell g1' 2 rfl
  have b3 : W.cell? ⟨w.heap.size + 1, 3, none⟩ = some (.slice B1 j1 d1) := hcell g1' 3 rfl
  have HB := Lib.hid hB
  clear g0 g1' hs hB hu hv
  go_enter Tryz.func33, Tryz.ntmps33
  go_wp2_with fail
  clear hW
  refine (fcmp_calls _ _ p q k _ (HU.out.below HB.out) (HV.out.below HB.out) hk hk1).mono ?_
  rintro e w1 ⟨hb1, rfl⟩
  have HB1 := Lib.hid (below_next HB.out hb1)
  obtain ⟨d, hd⟩ : ∃ d, d = cmpQ p q := ⟨_, rfl⟩
  rw [← hd]
  clear hb1
  by_cases h0 : d = 0
  · have HE : Hid (decide (p = q) = true) := Lib.hid (by rw [decide_eq_true_iff]; exact cmpQ_zero.1 (hd ▸ h0))
    clear hd
    subst h0
    go_wp2
    go_ret
    exact ⟨HB1.out, by rw [HE.out]; rfl⟩
  · have HE : Hid (decide (p = q) = false) := Lib.hid (by rw [decide_eq_false_iff_not]; exact fun h => h0 (hd ▸ cmpQ_zero.2 h))
    have hf : (d == 0) = false := by rw [beq_eq_false_iff_ne]; exact h0
    clear hd h0
    go_wp2
    go_ret
    exact ⟨HB1.out, by rw [HE.out]; rfl⟩
#print axioms fequal_calls
end Go.Proofs.YtlaemhigmgmgjaaGreat
/- Fractions as they come in; the law helper that asks how long they are. No condition. -/
namespace Go.Proofs.YtlaemhigmgmgjaaGreat
set_option linter.unusedVariables false
set_option linter.unusedSimpArgs false
open Go.RowKit

abbrev RawQ := (Bool × List Nat) × (Bool × List Nat)
def qv (x : RawQ) : Rat := fv (zv x.1.1 x.1.2) (zv x.2.1 x.2.2)
def bigQ (x : RawQ) : Bool := decide (6 < x.1.2.length) || decide (6 < x.2.2.length)
def qlongP (l : List RawQ) : Bool := l.any bigQ
theorem bigQ_not {x : RawQ} (h : bigQ x = false) : x.1.2.length ≤ 6 ∧ x.2.2.length ≤ 6 := by
  unfold bigQ at h
  simp only [Bool.or_eq_false_iff, decide_eq_false_iff_not] at h
  omega
theorem qlongP_not {l : List RawQ} (h : qlongP l = false) : ∀ x ∈ l, x.1.2.length ≤ 6 ∧ x.2.2.length ≤ 6 := fun x hx => bigQ_not (by
  unfold qlongP at h
  have := List.any_eq_false.1 h x hx
  simpa using this)
/-- What comes in, as a fraction. -/
theorem q_open {ok : Nat → Option Obj → Prop} {w : World} {x : RawQ} {cs : List Value} (h : Kd.q.rel ok w x cs) : ∃ (A : Option Addr) (c : Nat) (B : Option Addr) (d : Nat), cs = [.bool x.1.1, .slice A x.1.2.length c, .bool x.2.1, .slice B x.2.2.length d] ∧ Row Kd.u32 ok w (.slice A x.1.2.length c) x.1.2 ∧ Row Kd.u32 ok w (.slice B x.2.2.length d) x.2.2 := by
  obtain ⟨⟨g, l⟩, g', l'⟩ := x
  obtain ⟨u, v, rfl, hu, hv⟩ := Kd.q_open h
  obtain ⟨A, c, rfl, _⟩ := hu.form
  obtain ⟨B, d, rfl, _⟩ := hv.form
  exact ⟨A, c, B, d, rfl, hu, hv⟩
theorem qin_of {ok : Nat → Option Obj → Prop} {w : World} {x : RawQ} {a b c d : Value} (h : Kd.q.rel ok w x [a, b, c, d]) {k : Nat} (h1 : x.1.2.length ≤ k) (h2 : x.2.2.length ≤ k) : QIn (fun _ _ => True) w (.agg #[a, b, c, d]) (qv x) k := by
  obtain ⟨A, e, B, f, hcs, hu, hv⟩ := q_open h
  simp only [List.cons.injEq, and_true] at hcs
  obtain ⟨rfl, rfl, rfl, rfl⟩ := hcs
  exact ⟨_, _, ⟨_, A, e, _, _, B, f, _, rfl, hu.mono (fun _ _ _ => trivial), hv.mono (fun _ _ _ => trivial), rfl, rfl, h1, h2⟩, rfl⟩
theorem q_cell {ok : Nat → Option Obj → Prop} {w : World} {A : Option Addr} {n c : Nat} {l : List RawQ} (h : Row Kd.q ok w (.slice A n c) l) {k : Nat} (hk : k < l.length) :
    ∃ b off A1 c1 A2 c2, A = some ⟨b, off, none⟩ ∧ w.cell? ⟨b, off + k * 4, none⟩ = some (.bool l[k].1.1) ∧ w.cell? ⟨b, off + k * 4 + 1, none⟩ = some (.slice A1 l[k].1.2.length c1) ∧ w.cell? ⟨b, off + k * 4 + 2, none⟩ = some (.bool l[k].2.1) ∧
      w.cell? ⟨b, off + k * 4 + 3, none⟩ = some (.slice A2 l[k].2.2.length c2) ∧ Kd.q.rel ok w l[k] [.bool l[k].1.1, .slice A1 l[k].1.2.length c1, .bool l[k].2.1, .slice A2 l[k].2.2.length c2] := by
  obtain ⟨A', c', hv, hc, hm, hr⟩ := h
  simp only [Value.slice.injEq] at hv
  obtain ⟨rfl, rfl, rfl⟩ := hv
  obtain ⟨b, off, rfl, _, hj⟩ := hr (by omega)
  obtain ⟨cs, h1, h2⟩ := hj k hk
  obtain ⟨A1, c1, A2, c2, rfl, hu, hv⟩ := q_open h1
  have e0 := h2 0 (by simp)
  have e1 := h2 1 (by simp)
  have e2 := h2 2 (by simp)
  have e3 := h2 3 (by simp)
  exact ⟨b, off, A1, c1, A2, c2, rfl, e0, e1, e2, e3, h1⟩
theorem qlongP_take {l : List RawQ} {k : Nat} (hk : k < l.length) : qlongP (l.take (k + 1)) = (qlongP (l.take k) || bigQ l[k]) := by
  unfold qlongP
  rw [List.take_succ_eq_append_getElem hk, List.any_append]; simp

set_option maxRecDepth 100000 in
set_option maxHeartbeats 1000000 in
theorem qlong_calls (ok : Nat → Option Obj → Prop) (A : Option Addr) (n c : Nat) (l : List RawQ) (w : World) (h : Row Kd.q ok w (.slice A n c) l) :
    Calls Tryz.prog 19 #[.slice A n c] w fun e w' => w' = w ∧ e = .returned (.bool (qlongP l)) := by
  obtain rfl := h.len
  have hm := h.small
  have HR := Lib.hid h
  clear h
  go_enter Tryz.func19, Tryz.ntmps19
  go_wp2_with fail
  go_loop [3] (fun i => ∃ k : Nat, k ≤ l.length ∧ i = .int .i64 k ∧ Hid (qlongP (l.take k) = false))
    (fun i => l.length - (intOf i).toNat)
  case atStart => exact ⟨0, Nat.zero_le _, rfl, rfl⟩
  case round =>
    obtain ⟨k, hkl, rfl, HI⟩ := hrel
    by_cases hlt : k < l.length
    · obtain ⟨b, off, A1, c1, A2, c2, rfl, e0, e1, e2, e3, _⟩ := q_cell HR.out hlt
      have ht := qlongP_take hlt
      rw [HI.out, Bool.false_or] at ht
      obtain ⟨n1, hn1⟩ : ∃ z, z = l[k].1.2.length := ⟨_, rfl⟩
      obtain ⟨n2, hn2⟩ : ∃ z, z = l[k].2.2.length := ⟨_, rfl⟩
      have hbig : bigQ l[k] = (decide (6 < n1) || decide (6 < n2)) := by rw [hn1, hn2]; rfl
      rw [hbig] at ht
      rw [← hn1] at e1
      rw [← hn2] at e3
      have HT := Lib.hid ht
      have hk0 : (0 : Int) ≤ (k : Int) := by omega
      have hk1 : (k : Int) < (l.length : Int) := by omega
      have hany : qlongP (l.take (k + 1)) = true → qlongP l = true := fun h => by
        unfold qlongP at h ⊢
        rw [List.any_eq_true] at h ⊢
        obtain ⟨x, hx, hb⟩ := h
        exact ⟨x, List.mem_of_mem_take hx, hb⟩
      have HANY := Lib.hid hany
      clear hn1 hn2 hbig ht e0 e2 hany
      by_cases h1 : 6 < n1
      · have HL : Hid (qlongP l = true) := Lib.hid (HANY.out (by rw [HT.out]; simp [h1]))
        have h1' : (6 : Int) < (n1 : Int) := by omega
        clear h1
        go_wp2
        go_ret
        exact ⟨rfl, by rw [HL.out]; rfl⟩
      · have h1' : (n1 : Int) ≤ 6 := by omega
        by_cases h2 : 6 < n2
        · have HL : Hid (qlongP l = true) := Lib.hid (HANY.out (by rw [HT.out]; simp [h2]))
          have h2' : (6 : Int) < (n2 : Int) := by omega
          clear h1 h2
          go_wp2
          go_ret
          exact ⟨rfl, by rw [HL.out]; rfl⟩
        · have HL : Hid (qlongP (l.take (k + 1)) = false) := Lib.hid (by rw [HT.out]; simp; omega)
          have h2' : (n2 : Int) ≤ 6 := by omega
          clear h1 h2
          go_wp2
          go_round
          case rel => exact ⟨k + 1, by omega, by go_num, HL.out⟩
          case measure => simp [intOf]; omega
    · obtain rfl : k = l.length := by omega
      have HL : Hid (qlongP l = false) := Lib.hid (by have := HI.out; rwa [List.take_length] at this)
      go_wp2
      go_ret
      exact ⟨rfl, by rw [HL.out]; rfl⟩
#print axioms qlong_calls
end Go.Proofs.YtlaemhigmgmgjaaGreat
/- From the reading of an argument to a row. No condition. -/
namespace Go.Proofs.YtlaemhigmgmgjaaGreat
set_option linter.unusedVariables false
set_option linter.unusedSimpArgs false
open Go.RowKit Go.ChangeShapes Go.WideShapes Go.ChangeAt Go.Deep

def Paid {H : Type} (P : Program) (t : TypeId) (d : DataW H) : Prop := ∀ n ∈ d.weights P t, n ≤ reachBytes
theorem weights_all {H : Type} {P : Program} {e : TypeId} : ∀ {elems : List (DataW H)} {i : Nat} {d : DataW H}, elems[i]? = some d → ∀ n ∈ d.weights P e, n ∈ DataW.weightsAll P e elems
  | [], _, _, h, _, _ => by simp at h
  | a :: r, 0, d, h, n, hn => by
    simp only [List.getElem?_cons_zero, Option.some.injEq] at h
    subst h
    simp only [DataW.weightsAll, List.mem_append]
    exact .inl hn
  | a :: r, i + 1, d, h, n, hn => by
    simp only [List.getElem?_cons_succ] at h
    simp only [DataW.weightsAll, List.mem_append]
    exact .inr (weights_all h n hn)
theorem paid_elem {H : Type} {P : Program} {t e : TypeId} {elems spare : List (DataW H)} (hu : P.underlying t = some (.slice e)) (h : Paid P t (.slice elems spare)) {i : Nat} {d : DataW H} (hd : elems[i]? = some d) : Paid P e d := fun n hn =>
  h n (by simp only [DataW.weights, hu, List.mem_cons, List.mem_append]; exact .inr (.inl (weights_all hd n hn)))
theorem paid_len {H : Type} {P : Program} {t e : TypeId} {elems spare : List (DataW H)} (hu : P.underlying t = some (.slice e)) (h : Paid P t (.slice elems spare)) : (elems.length + spare.length) * P.bytesOf e ≤ reachBytes :=
  h _ (by simp only [DataW.weights, hu]; exact List.mem_cons_self)

section
variable {H : Type} {enc : TypeId × Value → H} {P : Program} {w : World} {base : Nat} {spare : Nat → Bool} {held : Bool}
theorem row_of {α : Type} (K : Kd α) {t e : TypeId} (ht : P.underlying t = some (.slice e)) (hc : P.cellsOf e = K.sz) (hby : 1 ≤ P.bytesOf e)
    (hel : ∀ (fuel : Nat) (cs : List Value) (y : DataW H × List MemPlace), DataW.trod enc P w base spare held fuel e cs = some y → Paid P e y.1 → cs.length = K.sz → ∃ a : α, K.rel AnyB w a cs)
    {fuel : Nat} {cs : List Value} {x : DataW H × List MemPlace} (h : DataW.trod enc P w base spare held fuel t cs = some x) (hp : Paid P t x.1) :
    ∃ v l, cs = [v] ∧ Row K AnyB w v l := by
  rcases open_slice ht h with ⟨rfl, rfl⟩ | ⟨a, len, cap, m, n, D, Pl, rfl, hb, hlc, hcm, hm, rfl, hx⟩
  · exact ⟨_, [], rfl, Row.nil 0 none (fun _ => rfl)⟩
  have hlm : len ≤ m := by rw [hm]; split <;> omega
  have hs := paid_len ht hp
  simp only [List.length_map, List.length_range] at hs
  have hs2 : (len + (m - len)) * 1 ≤ (len + (m - len)) * P.bytesOf e := Nat.mul_le_mul_left _ hby
  have hsm : len ≤ 140737488355328 := by
    have : reachBytes ≤ 140737488355328 := by decide
    omega
  by_cases hl0 : len = 0
  · subst hl0
    exact ⟨_, [], rfl, Row.nil cap (some a) (fun h => by cases h)⟩
  obtain ⟨b, off, spot⟩ := a
  have hspot : spot = none := by
    obtain ⟨cs', h1, _⟩ := hx 0 (by omega)
    obtain ⟨_, h3, h4⟩ := World.cells?_some h1
    have hpos := K.pos
    have h5 := h4 0 (by omega)
    obtain ⟨c0, hc0⟩ : ∃ c0, cs'[0]? = some c0 := ⟨cs'[0]'(by omega), List.getElem?_eq_getElem _⟩
    rw [hc0] at h5
    have := World.cell?_spot h5
    simpa [Addr.add] using this
  subst hspot
  have key : ∀ k, k ≤ len → ∃ l : List α, l.length = k ∧ ∀ j (hj : j < l.length), ∃ cs, K.rel AnyB w l[j] cs ∧ ∀ i (hi : i < cs.length), w.cell? ⟨b, off + j * K.sz + i, none⟩ = some cs[i] := by
    intro k
    induction k with
    | zero => exact fun _ => ⟨[], rfl, fun j hj => absurd hj (by simp)⟩
    | succ k ih =>
      intro hk
      obtain ⟨l, hll, hlj⟩ := ih (by omega)
      obtain ⟨cs', h1, h2⟩ := hx k (by omega)
      obtain ⟨_, h3, h4⟩ := World.cells?_some h1
      obtain ⟨a, ha⟩ := hel n cs' _ h2 (paid_elem ht hp (i := k) (d := D k) (by rw [List.getElem?_map, List.getElem?_range (by omega)]; rfl)) (by omega)
      refine ⟨l ++ [a], by simp [hll], fun j hj => ?_⟩
      by_cases hjk : j < l.length
      · rw [List.getElem_append_left hjk]; exact hlj j hjk
      · have hjk' : j = k := by simp at hj; omega
        subst hjk'
        refine ⟨cs', ?_, fun i hi => ?_⟩
        · have e : (l ++ [a])[j] = a := by rw [List.getElem_append_right (by omega)]; simp [hll]
          rw [e]; exact ha
        · have h5 := h4 i (by omega)
          rw [add_plain, add_plain, hc, List.getElem?_eq_getElem hi] at h5
          exact h5
  obtain ⟨l, hll, hlj⟩ := key len (Nat.le_refl _)
  subst hll
  exact ⟨_, l, rfl, _, cap, rfl, ⟨hlc, fun h => by cases h⟩, hsm, fun _ => ⟨b, off, rfl, trivial, hlj⟩⟩
theorem i64_wf {z : Int} (h : (Lit.int .i64 z).wf = true) : I64 z := by
  simp only [Lit.wf, Bool.and_eq_true, decide_eq_true_eq] at h
  exact ⟨h.1, h.2⟩
/-- A []struct of two int64. -/
theorem step_rel {e : TypeId} {f0 f1 : Field} (he : P.underlying e = some (.struct #[f0, f1])) (o0 : f0.offset = 0) (o1 : f1.offset = 1) (h0 : P.underlying f0.type = some (.int .i64)) (h1 : P.underlying f1.type = some (.int .i64)) (c0 : P.cellsOf f0.type = 1) (c1 : P.cellsOf f1.type = 1)
    {fuel : Nat} {cs : List Value} {y : DataW H × List MemPlace} (h : DataW.trod enc P w base spare held fuel e cs = some y) (hl : cs.length = 2) : ∃ a : Int × Int, Kd.step.rel AnyB w a cs := by
  obtain ⟨y0, y1, n, _, _, t0, t1⟩ := trod_struct2 he h
  match cs, hl with
  | [v, u], _ =>
    rw [o0, c0] at t0
    rw [o1, c1] at t1
    simp only [List.drop_zero, List.take_succ_cons, List.take_zero, List.drop_succ_cons] at t0 t1
    obtain ⟨p, hp, _, wp⟩ := DataW.trod_int h0 t0
    obtain ⟨q, hq, _, wq⟩ := DataW.trod_int h1 t1
    simp only [List.cons.injEq, and_true] at hp hq
    subst hp hq
    exact ⟨(p, q), rfl, i64_wf wp, i64_wf wq⟩
end

/-! ### The types of this program -/
theorem ty_curves : Tryz.prog.underlying 22 = some (.slice 23) := by kernel_rfl
theorem ty_curve : Tryz.prog.underlying 23 = some (.slice 99) := by kernel_rfl
theorem cells_curve : Tryz.prog.cellsOf 23 = 1 := by kernel_rfl
theorem cells_step : Tryz.prog.cellsOf 99 = 2 := by kernel_rfl
theorem bytes_curve : Tryz.prog.bytesOf 23 = 24 := by kernel_rfl
theorem bytes_step : Tryz.prog.bytesOf 99 = 16 := by kernel_rfl
theorem ty_step : ∃ f0 f1, Tryz.prog.underlying 99 = some (.struct #[f0, f1]) ∧ f0.offset = 0 ∧ f1.offset = 1 ∧ Tryz.prog.underlying f0.type = some (.int .i64) ∧ Tryz.prog.underlying f1.type = some (.int .i64) ∧ Tryz.prog.cellsOf f0.type = 1 ∧ Tryz.prog.cellsOf f1.type = 1 :=
  ⟨_, _, Tryz.underlying99, rfl, rfl, by kernel_rfl, by kernel_rfl, by kernel_rfl, by kernel_rfl⟩

section
variable {H : Type} {enc : TypeId × Value → H} {w : World} {base : Nat} {spare : Nat → Bool} {held : Bool}
theorem curve_rel {fuel : Nat} {cs : List Value} {x : DataW H × List MemPlace} (h : DataW.trod enc Tryz.prog w base spare held fuel 23 cs = some x) (hp : Paid Tryz.prog 23 x.1) : ∃ v l, cs = [v] ∧ Row Kd.step AnyB w v l := by
  obtain ⟨f0, f1, e0, e1, e2, e3, e4, e5, e6⟩ := ty_step
  exact row_of Kd.step ty_curve cells_step (by rw [bytes_step]; decide) (fun fuel cs y hy _ hl => step_rel e0 e1 e2 e3 e4 e5 e6 hy hl) h hp
theorem curves_rel {fuel : Nat} {cs : List Value} {x : DataW H × List MemPlace} (h : DataW.trod enc Tryz.prog w base spare held fuel 22 cs = some x) (hp : Paid Tryz.prog 22 x.1) : ∃ v L, cs = [v] ∧ Row Kd.curve AnyB w v L :=
  row_of Kd.curve ty_curves cells_curve (by rw [bytes_curve]; decide) (fun fuel cs y hy hpy _ => let ⟨v, l, h1, h2⟩ := curve_rel hy hpy; ⟨l, v, h1, h2⟩) h hp
end
#print axioms curves_rel
end Go.Proofs.YtlaemhigmgmgjaaGreat
/-
From a contract of a law to its given statement: words that the lifts share. No condition.
-/
namespace Go.Proofs.YtlaemhigmgmgjaaGreat
set_option linter.unusedVariables false
set_option linter.unusedSimpArgs false
open Go.ChangeShapes Go.WideShapes Go.ChangeAt Go.RowKit Go.Deep

theorem below_trodAll {H : Type} {enc : TypeId × Value → H} {P : Program} (hl : laidOutB P = true) {W W' : World} (hb : Below W.heap.size W W') : ∀ {ts : List TypeId} {vs : List Value} {ds : List (DataW H)} {ps : List MemPlace}, (∀ t ∈ ts, P.readableRec t = true ∧ t < P.types.size) →
    DataW.TrodAll enc P W 0 (fun _ => true) true ts vs ds ps → (∀ x ∈ ps, x.block < W.heap.size) → DataW.TrodAll enc P W' 0 (fun b => decide (b < W.heap.size)) true ts vs ds ps
  | [], vs, ds, ps, _, h, _ => by
    obtain ⟨rfl, rfl, rfl⟩ := trodAll_nil h
    exact trodAll_mk0
  | t :: ts, vs, ds, ps, hr, h, hlt => by
    obtain ⟨v, vs', d, ds', p, q, rfl, rfl, rfl, h1, h2⟩ := trodAll_cons h
    have hrt := hr t (by simp)
    exact trodAll_cons_mk (Below.trod hl hrt.1 hrt.2 h1 hb (fun x hx => hlt x (List.mem_append_left _ hx))) (below_trodAll hl hb (fun t' ht' => hr t' (List.mem_cons_of_mem _ ht')) h2 (fun x hx => hlt x (List.mem_append_right _ hx)))

theorem law_own : ownKnob Tryz.prog.godebug = none := by kernel_rfl
theorem law_laid : laidOutB Tryz.prog = true := by kernel_rfl
theorem ty_bool : Tryz.prog.underlying 4 = some .bool := by kernel_rfl
#print axioms below_trodAll
end Go.Proofs.YtlaemhigmgmgjaaGreat
/- From the reading of an argument to a fraction, and to a row of fractions. No condition. -/
namespace Go.Proofs.YtlaemhigmgmgjaaGreat
set_option linter.unusedVariables false
set_option linter.unusedSimpArgs false
open Go.RowKit Go.ChangeShapes Go.WideShapes Go.ChangeAt Go.Deep

theorem paid_two {H : Type} {P : Program} {t : TypeId} {f0 f1 : Field} {y0 y1 : DataW H} (hu : P.underlying t = some (.struct #[f0, f1])) (h : Paid P t (.agg [y0, y1])) : Paid P f0.type y0 ∧ Paid P f1.type y1 := by
  have e : ∀ n, n ∈ DataW.weights P t (.agg [y0, y1]) ↔ n ∈ y0.weights P f0.type ∨ n ∈ y1.weights P f1.type := fun n => by
    simp [DataW.weights, hu, DataW.weightsEach]
  exact ⟨fun n hn => h n ((e n).2 (.inl hn)), fun n hn => h n ((e n).2 (.inr hn))⟩
section
variable {H : Type} {enc : TypeId × Value → H} {P : Program} {w : World} {base : Nat} {spare : Nat → Bool} {held : Bool}
theorem u32_rel {e : TypeId} (he : P.underlying e = some (.int .u32)) {fuel : Nat} {cs : List Value} {y : DataW H × List MemPlace} (h : DataW.trod enc P w base spare held fuel e cs = some y) : ∃ a : Nat, Kd.u32.rel AnyB w a cs := by
  obtain ⟨p, rfl, _, wp⟩ := DataW.trod_int he h
  simp only [Lit.wf, Bool.and_eq_true, decide_eq_true_eq] at wp
  obtain ⟨a, rfl⟩ := Int.eq_ofNat_of_zero_le wp.1
  have h2 : (a : Int) ≤ 4294967295 := wp.2
  exact ⟨a, rfl, by show a < 4294967296; omega⟩
end

/-! ### The types of this program -/
theorem ty_words : Tryz.prog.underlying 40 = some (.slice 114) := by kernel_rfl
theorem ty_u32 : Tryz.prog.underlying 114 = some (.int .u32) := by kernel_rfl
theorem cells_u32 : Tryz.prog.cellsOf 114 = 1 := by kernel_rfl
theorem bytes_u32 : Tryz.prog.bytesOf 114 = 4 := by kernel_rfl
theorem ty_z : ∃ f0 f1, Tryz.prog.underlying 42 = some (.struct #[f0, f1]) ∧ f0.offset = 0 ∧ f1.offset = 1 ∧ f0.type = 4 ∧ f1.type = 40 := ⟨_, _, Tryz.underlying42, rfl, rfl, rfl, rfl⟩
theorem ty_q : ∃ f0 f1, Tryz.prog.underlying 44 = some (.struct #[f0, f1]) ∧ f0.offset = 0 ∧ f1.offset = 2 ∧ f0.type = 42 ∧ f1.type = 42 := ⟨_, _, Tryz.underlying44, rfl, rfl, rfl, rfl⟩
theorem cells_b : Tryz.prog.cellsOf 4 = 1 := by kernel_rfl
theorem cells_ws : Tryz.prog.cellsOf 40 = 1 := by kernel_rfl
theorem cells_z : Tryz.prog.cellsOf 42 = 2 := by kernel_rfl
theorem cells_q : Tryz.prog.cellsOf 44 = 4 := by kernel_rfl
theorem bytes_q : Tryz.prog.bytesOf 44 = 64 := by kernel_rfl
theorem ty_qs : Tryz.prog.underlying 55 = some (.slice 44) := by kernel_rfl
section
variable {H : Type} {enc : TypeId × Value → H} {w : World} {base : Nat} {spare : Nat → Bool} {held : Bool}
theorem words_rel {fuel : Nat} {cs : List Value} {x : DataW H × List MemPlace} (h : DataW.trod enc Tryz.prog w base spare held fuel 40 cs = some x) (hp : Paid Tryz.prog 40 x.1) : ∃ v l, cs = [v] ∧ Row Kd.u32 AnyB w v l :=
  row_of Kd.u32 ty_words cells_u32 (by rw [bytes_u32]; decide) (fun fuel cs y hy _ _ => u32_rel ty_u32 hy) h hp
set_option maxRecDepth 100000 in
theorem z_rel {fuel : Nat} {cs : List Value} {x : DataW H × List MemPlace} (h : DataW.trod enc Tryz.prog w base spare held fuel 42 cs = some x) (hp : Paid Tryz.prog 42 x.1) (hl : cs.length = 2) : ∃ a : Bool × List Nat, Kd.z.rel AnyB w a cs := by
  obtain ⟨f0, f1, e0, e1, e2, e3, e4⟩ := ty_z
  obtain ⟨y0, y1, n, rfl, _, t0, t1⟩ := trod_struct2 e0 h
  obtain ⟨_, p1⟩ := paid_two e0 hp
  match cs, hl with
  | [u, v], _ =>
    rw [e1, e3, cells_b] at t0
    rw [e2, e4, cells_ws] at t1
    rw [e4] at p1
    simp only [List.drop_zero, List.take_succ_cons, List.take_zero, List.drop_succ_cons] at t0 t1
    obtain ⟨b, hb, _⟩ := DataW.trod_bool ty_bool t0
    obtain ⟨v', l, hv, hr⟩ := words_rel t1 p1
    simp only [List.cons.injEq, and_true] at hb hv
    subst hb hv
    exact ⟨(b, l), [.bool b], [v], rfl, ⟨rfl, trivial⟩, v, rfl, hr⟩
set_option maxRecDepth 100000 in
theorem q_rel {fuel : Nat} {cs : List Value} {x : DataW H × List MemPlace} (h : DataW.trod enc Tryz.prog w base spare held fuel 44 cs = some x) (hp : Paid Tryz.prog 44 x.1) (hl : cs.length = 4) : ∃ a : RawQ, Kd.q.rel AnyB w a cs := by
  obtain ⟨f0, f1, e0, e1, e2, e3, e4⟩ := ty_q
  obtain ⟨y0, y1, n, rfl, _, t0, t1⟩ := trod_struct2 e0 h
  obtain ⟨p0, p1⟩ := paid_two e0 hp
  match cs, hl with
  | [a, b, c, d], _ =>
    rw [e1, e3, cells_z] at t0
    rw [e2, e4, cells_z] at t1
    rw [e3] at p0
    rw [e4] at p1
    simp only [List.drop_zero, List.take_succ_cons, List.take_zero, List.drop_succ_cons] at t0 t1
    obtain ⟨x0, h0⟩ := z_rel t0 p0 rfl
    obtain ⟨x1, h1⟩ := z_rel t1 p1 rfl
    exact ⟨(x0, x1), [a, b], [c, d], rfl, h0, h1⟩
theorem qs_rel {fuel : Nat} {cs : List Value} {x : DataW H × List MemPlace} (h : DataW.trod enc Tryz.prog w base spare held fuel 55 cs = some x) (hp : Paid Tryz.prog 55 x.1) : ∃ v l, cs = [v] ∧ Row Kd.q AnyB w v l :=
  row_of Kd.q ty_qs cells_q (by rw [bytes_q]; decide) (fun fuel cs y hy hpy hl => q_rel hy hpy hl) h hp
set_option maxRecDepth 100000 in
/-- A fraction by value. -/
theorem q_arg {r : Reach} {b0 : Nat} {v : Value} {d : DataW H} {p : List MemPlace} (hv : Value.okWide Tryz.prog w r b0 44 v) (h : DataW.Trod enc Tryz.prog w base spare held 44 v d p) (hp : Paid Tryz.prog 44 d) :
    ∃ (x : RawQ) (t0 : Bool) (A0 : Option Addr) (m0 c0 : Nat) (s0 : Bool) (B0 : Option Addr) (j0 d0 : Nat), v = .agg #[.bool t0, .slice A0 m0 c0, .bool s0, .slice B0 j0 d0] ∧ Kd.q.rel AnyB w x [.bool t0, .slice A0 m0 c0, .bool s0, .slice B0 j0 d0] := by
  obtain ⟨f0, f1, e0, _⟩ := ty_q
  obtain ⟨cs, rfl, hsz⟩ := okWide_struct e0 hv
  obtain ⟨fuel, hf⟩ := h
  have hf' : DataW.trod enc Tryz.prog w base spare held fuel 44 cs.toList = some (d, p) := by simpa [Value.cells] using hf
  obtain ⟨x, hx⟩ := q_rel hf' hp (by rw [Array.length_toList, hsz, cells_q])
  have hx' := hx
  obtain ⟨A, c, B, e, hcs, _⟩ := q_open hx
  obtain ⟨l⟩ := cs
  simp only at hcs hx'
  subst hcs
  exact ⟨x, _, _, _, _, _, _, _, _, rfl, hx'⟩
end
#print axioms q_arg
end Go.Proofs.YtlaemhigmgmgjaaGreat
/- step: wants, SupplyAt, DemandAt: what they return. No condition beyond sizes. -/
namespace Go.Proofs.YtlaemhigmgmgjaaGreat
set_option linter.unusedVariables false
set_option linter.unusedSimpArgs false
open Go.RowKit

def sgI (up : Bool) : Int := if up then 1 else -1
theorem way_sgI (up : Bool) (p : Int) (l : Rat) : wayQ up p l = sgI up * cmpQ (p : Rat) l := by
  unfold wayQ sgI; cases up <;> simp
theorem cmpQ_in (p q : Rat) : -1 ≤ cmpQ p q ∧ cmpQ p q ≤ 1 := by unfold cmpQ; split <;> (try split) <;> omega
theorem way_in (up : Bool) (p : Int) (l : Rat) : -1 ≤ wayQ up p l ∧ wayQ up p l ≤ 1 := by
  have := cmpQ_in (p : Rat) l
  unfold wayQ; split <;> omega
theorem leastI_take {up : Bool} {l : Rat} {c : List (Int × Int)} {k : Nat} (hk : k < c.length) : leastI up l (c.take (k + 1)) = leastI up l (c.take k) + (if wayQ up c[k].2 l < 0 then c[k].1 else 0) := by
  rw [List.take_succ_eq_append_getElem hk, leastI_snoc]
theorem mostI_take {up : Bool} {l : Rat} {c : List (Int × Int)} {k : Nat} (hk : k < c.length) : mostI up l (c.take (k + 1)) = mostI up l (c.take k) + (if wayQ up c[k].2 l ≤ 0 then c[k].1 else 0) := by
  rw [List.take_succ_eq_append_getElem hk, mostI_snoc]
theorem want_le {up : Bool} {l : Rat} {c : List (Int × Int)} (h : ∀ s ∈ c, StepIn s) : ∀ k, k ≤ c.length → 0 ≤ leastI up l (c.take k) ∧ leastI up l (c.take k) ≤ 1000000 * k ∧ 0 ≤ mostI up l (c.take k) ∧ mostI up l (c.take k) ≤ 1000000 * k
  | 0, _ => by simp [leastI, mostI]
  | k + 1, hk => by
    have h1 := want_le (up := up) (l := l) h k (by omega)
    have h2 := h c[k] (List.getElem_mem _)
    unfold StepIn at h2
    rw [leastI_take (by omega), mostI_take (by omega)]
    split <;> split <;> omega

set_option maxRecDepth 100000 in
set_option maxHeartbeats 4000000 in
theorem wants_calls (ok : Nat → Option Obj → Prop) (A : Option Addr) (n c : Nat) (l : List (Int × Int)) (u : Value) (q : Rat) (kq : Nat) (up : Bool) (sI : Int) (hsI : sI = sgI up) (w : World) (h : Row Kd.step ok w (.slice A n c) l) (hl : l.length ≤ 3) (hin : ∀ s ∈ l, StepIn s)
    (hu : QIn (fun _ _ => True) w u q kq) (hk : kq ≤ 100000000) (hk1 : 1 ≤ kq) :
    Calls Tryz.prog 61 #[.slice A n c, u, .int .i64 sI] w fun e w' => Below w.heap.size w w' ∧ e = .returned (.tuple #[.int .i64 (leastI up q l), .int .i64 (mostI up q l)]) := by
  obtain rfl := h.len
  obtain ⟨t0, A0, m0, c0, s0, B0, j0, d0, rfl, HU⟩ := hu.form
  obtain ⟨W, hW, g0, hB, hs⟩ := one_box w (.cells #[.bool t0, .slice A0 m0 c0, .bool s0, .slice B0 j0 d0] 44)
  have G0 := Lib.hid g0
  have HB := Lib.hid hB
  have HS := Lib.hid hs
  have HR := Lib.hid (h.below hB)
  have HQ := Lib.hid (HU.out.below hB)
  have HIN := Lib.hid hin
  have HSI := Lib.hid hsI
  have hsb : -1 ≤ sI ∧ sI ≤ 1 := by rw [hsI]; unfold sgI; split <;> omega
  obtain ⟨hs0, hs1⟩ := hsb
  clear g0 hB hs hu h hin hsI
  go_enter Tryz.func61, Tryz.ntmps61
  go_wp2_with fail
  clear hW
  go_loopw [6, 7, 13] (fun a b i wr => ∃ (k : Nat) (x y : Int), k ≤ l.length ∧ a = .int .i64 x ∧ b = .int .i64 y ∧ i = .int .i64 k ∧ Hid (x = leastI up q (l.take k)) ∧ Hid (y = mostI up q (l.take k)) ∧ Hid (Below W.heap.size W wr))
    (fun _ _ i _ => l.length - (intOf i).toNat)
  case atStart => exact ⟨0, 0, 0, Nat.zero_le _, rfl, rfl, rfl, rfl, rfl, Below.refl _ _⟩
  case round =>
    obtain ⟨k, x, y, hkl, rfl, rfl, rfl, HX, HY, HBW⟩ := hrel
    by_cases hlt : k < l.length
    · obtain ⟨b, off, rfl, hq, hp, iq, ip⟩ := step_cell (HR.out.below HBW.out) hlt
      have hxy := want_le (up := up) (l := q) HIN.out k hkl
      rw [← HX.out, ← HY.out] at hxy
      have hsi := HIN.out l[k] (List.getElem_mem _)
      have hx1 := leastI_take (up := up) (l := q) hlt
      have hy1 := mostI_take (up := up) (l := q) hlt
      rw [← HX.out] at hx1
      rw [← HY.out] at hy1
      obtain ⟨qt, hqd⟩ : ∃ z, z = l[k].1 := ⟨_, rfl⟩
      obtain ⟨p, hpd⟩ : ∃ z, z = l[k].2 := ⟨_, rfl⟩
      unfold StepIn at hsi
      rw [← hqd, ← hpd] at hsi
      rw [← hqd] at hq hx1 hy1
      rw [← hpd] at hp hx1 hy1
      obtain ⟨v, hv⟩ : ∃ v, v = wayQ up p q := ⟨_, rfl⟩
      have hvin := way_in up p q
      rw [← hv] at hx1 hy1 hvin
      obtain ⟨g, hg⟩ : ∃ g, g = cmpQ (p : Rat) q := ⟨_, rfl⟩
      have hgin := cmpQ_in (p : Rat) q
      rw [← hg] at hgin
      have hmul : sI * g = v := by rw [hv, way_sgI, HSI.out, hg]
      obtain ⟨h1, h2, h3, h4⟩ := hxy
      obtain ⟨h5, h6, h7, h8⟩ := hsi
      obtain ⟨hv0, hv1⟩ := hvin
      obtain ⟨hg0, hg1⟩ := hgin
      have hwr : IntKind.i64.wrap v = v := IntWalk.i64_in _ ⟨by omega, by omega⟩
      have hwx : IntKind.i64.wrap (x + qt) = x + qt := IntWalk.i64_in _ ⟨by omega, by omega⟩
      have hwy : IntKind.i64.wrap (y + qt) = y + qt := IntWalk.i64_in _ ⟨by omega, by omega⟩
      have HG := Lib.hid hg
      have HX1 := Lib.hid hx1
      have HY1 := Lib.hid hy1
      obtain ⟨Wx, hWx, gx, hBx, hsx⟩ := one_box wr (.cells #[.int .i64 qt, .int .i64 p] 99)
      have HBX := Lib.hid (below_next HBW.out hBx)
      have GX := Lib.hid gx
      have hg0' := heap_below HBX.out G0.out
      have a0 : Wx.drew.cell? ⟨w.heap.size, 0, none⟩ = some (.bool t0) := hcell (heap_drew hg0') 0 rfl
      have a1 : Wx.drew.cell? ⟨w.heap.size, 1, none⟩ = some (.slice A0 m0 c0) := hcell (heap_drew hg0') 1 rfl
      have a2 : Wx.drew.cell? ⟨w.heap.size, 2, none⟩ = some (.bool s0) := hcell (heap_drew hg0') 2 rfl
      have a3 : Wx.drew.cell? ⟨w.heap.size, 3, none⟩ = some (.slice B0 j0 d0) := hcell (heap_drew hg0') 3 rfl
      have z0 : Wx.drew.cell? ⟨wr.heap.size, 0, none⟩ = some (.int .i64 qt) := hcell (heap_drew gx) 0 rfl
      have z1 : Wx.drew.cell? ⟨wr.heap.size, 1, none⟩ = some (.int .i64 p) := hcell (heap_drew gx) 1 rfl
      have HQX := Lib.hid ((HQ.out.below HBX.out).drew)
      clear hqd hpd iq ip hx1 hy1 hg hv hg0' gx hBx hsx
      go_wp2_with fail
      clear hWx
      go_region_held3 (fun w' => w'.cell? ⟨w.heap.size, 0, none⟩ = some (.bool t0) ∧ w'.cell? ⟨w.heap.size, 1, none⟩ = some (.slice A0 m0 c0) ∧ w'.cell? ⟨w.heap.size, 2, none⟩ = some (.bool s0) ∧ w'.cell? ⟨w.heap.size, 3, none⟩ = some (.slice B0 j0 d0) ∧ w'.cell? ⟨wr.heap.size, 1, none⟩ = some (.int .i64 p) ∧ w'.cell? ⟨wr.heap.size, 0, none⟩ = some (.int .i64 qt))
        (first | with_reducible exact ⟨a0, a1, a2, a3, z1, z0⟩ | with_reducible exact ⟨k0, k1, k2, k3, k4, k5⟩ | go_keep)
        (first
          | (go_at_call 21; refine (ffrom_calls p _ ⟨by omega, by omega⟩).mono ?_; rintro e w4 ⟨hb4, r4, rfl, hr4⟩; obtain ⟨t1, A1, m1, c1, s1, B1, j1, d1, rfl, Z4⟩ := hr4.open; have k0 := cell_below hb4 a0; have k1 := cell_below hb4 a1; have k2 := cell_below hb4 a2; have k3 := cell_below hb4 a3; have k4 := cell_below hb4 z1; have k5 := cell_below hb4 z0; have HB4 := Lib.hid hb4; clear hb4 hr4)
          | (go_at_call 23; refine (fcmp_calls _ _ (p : Rat) q kq _ (by exact ((Z4.out.qin (fits_int (by omega))).any.le hk1)) (by exact HQX.out.below HB4.out) hk hk1).mono ?_; rintro e w5 ⟨hb5, he⟩; rw [← HG.out] at he; subst he; have k0 := cell_below hb5 k0; have k1 := cell_below hb5 k1; have k2 := cell_below hb5 k2; have k3 := cell_below hb5 k3; have k4 := cell_below hb5 k4; have k5 := cell_below hb5 k5; have HB5 := Lib.hid (below_next (below_drew (Below.refl _ _)) (below_next HB4.out hb5)); clear hb5))
      have HBN : Hid (Below W.heap.size W w5) := Lib.hid (below_next HBX.out HB5.out)
      rcases Int.lt_trichotomy v 0 with hv | hv | hv
      · have HXN : Hid (leastI up q (l.take (k + 1)) = x + qt) := Lib.hid (by rw [HX1.out, if_pos hv])
        have HYN : Hid (mostI up q (l.take (k + 1)) = y + qt) := Lib.hid (by rw [HY1.out, if_pos (by omega)])
        clear HX1 HY1
        go_wp2
        go_roundw
        case rel => exact ⟨k + 1, x + qt, y + qt, by omega, rfl, rfl, by go_num, HXN.out.symm, HYN.out.symm, HBN.out⟩
        case measure => simp [intOf]; omega
      · have HXN : Hid (leastI up q (l.take (k + 1)) = x) := Lib.hid (by rw [HX1.out, if_neg (by omega)]; omega)
        have HYN : Hid (mostI up q (l.take (k + 1)) = y + qt) := Lib.hid (by rw [HY1.out, if_pos (by omega)])
        have hnl : ¬ v < 0 := by omega
        have heq : (v == 0) = true := by rw [hv]; rfl
        clear HX1 HY1 hv
        go_wp2
        go_roundw
        case rel => exact ⟨k + 1, x, y + qt, by omega, rfl, rfl, by go_num, HXN.out.symm, HYN.out.symm, HBN.out⟩
        case measure => simp [intOf]; omega
      · have HXN : Hid (leastI up q (l.take (k + 1)) = x) := Lib.hid (by rw [HX1.out, if_neg (by omega)]; omega)
        have HYN : Hid (mostI up q (l.take (k + 1)) = y) := Lib.hid (by rw [HY1.out, if_neg (by omega)]; omega)
        have hnl : ¬ v < 0 := by omega
        have hne : (v == 0) = false := by rw [beq_eq_false_iff_ne]; omega
        clear HX1 HY1
        go_wp2
        go_roundw
        case rel => exact ⟨k + 1, x, y, by omega, rfl, rfl, by go_num, HXN.out.symm, HYN.out.symm, HBN.out⟩
        case measure => simp [intOf]; omega
    · obtain rfl : k = l.length := by omega
      have hx2 : leastI up q l = x := by rw [HX.out, List.take_length]
      have hy2 : mostI up q l = y := by rw [HY.out, List.take_length]
      have HX2 := Lib.hid hx2
      have HY2 := Lib.hid hy2
      clear hx2 hy2
      go_wp2
      go_ret2
      exact ⟨below_next HB.out HBW.out, by rw [HX2.out, HY2.out]; rfl⟩

/-- What an offer or a bid wants at a price, and its error. -/
def wantR (up : Bool) (q : Rat) (l : List (Int × Int)) : Int × Int × Int := if curveE (afterOf up) l = 0 then (leastI up q l, mostI up q l, 0) else (0, 0, curveE (afterOf up) l)
set_option maxRecDepth 100000 in
set_option maxHeartbeats 1000000 in
theorem supply_calls (ok : Nat → Option Obj → Prop) (A : Option Addr) (n c : Nat) (l : List (Int × Int)) (u : Value) (q : Rat) (kq : Nat) (w : World) (h : Row Kd.step ok w (.slice A n c) l)
    (hu : QIn (fun _ _ => True) w u q kq) (hk : kq ≤ 100000000) (hk1 : 1 ≤ kq) :
    Calls Tryz.prog 30 #[.slice A n c, u] w fun e w' => Below w.heap.size w w' ∧ e = .returned (.tuple #[.int .i64 (wantR true q l).1, .int .i64 (wantR true q l).2.1, .int .i64 (wantR true q l).2.2]) := by
  obtain rfl := h.len
  obtain ⟨t0, A0, m0, c0, s0, B0, j0, d0, rfl, HU⟩ := hu.form
  obtain ⟨W, hW, g0, hB, hs⟩ := one_box w (.cells #[.bool t0, .slice A0 m0 c0, .bool s0, .slice B0 j0 d0] 44)
  have G0 := Lib.hid g0
  have HB := Lib.hid hB
  have HR := Lib.hid (h.below hB)
  have HQ := Lib.hid (HU.out.below hB)
  clear g0 hB hs hu h
  go_enter Tryz.func30, Tryz.ntmps30
  go_wp2_with fail
  clear hW
  refine (check_up ok _ _ _ l _ HR.out).mono ?_
  rintro e w1 ⟨hb1, rfl⟩
  have HB1 := Lib.hid hb1
  have hg := heap_below hb1 G0.out
  have a0 : w1.cell? ⟨w.heap.size, 0, none⟩ = some (.bool t0) := hcell hg 0 rfl
  have a1 : w1.cell? ⟨w.heap.size, 1, none⟩ = some (.slice A0 m0 c0) := hcell hg 1 rfl
  have a2 : w1.cell? ⟨w.heap.size, 2, none⟩ = some (.bool s0) := hcell hg 2 rfl
  have a3 : w1.cell? ⟨w.heap.size, 3, none⟩ = some (.slice B0 j0 d0) := hcell hg 3 rfl
  clear hb1 hg
  obtain ⟨d, hd⟩ : ∃ d, d = curveE upA l := ⟨_, rfl⟩
  rw [← hd]
  by_cases h0 : d = 0
  · have hin := curveE_in (hd ▸ h0)
    have HIN := Lib.hid hin
    have HE : Hid (wantR true q l = (leastI true q l, mostI true q l, 0)) := Lib.hid (by unfold wantR; rw [if_pos (by show curveE upA l = 0; exact hd ▸ h0)])
    clear hin hd
    subst h0
    go_wp2_with fail
    refine (wants_calls ok _ _ _ l _ q kq true 1 rfl _ (HR.out.below HB1.out) HIN.out.2.1 HIN.out.2.2 (HQ.out.below HB1.out) hk hk1).mono ?_
    rintro e w2 ⟨hb2, rfl⟩
    have HB2 := Lib.hid hb2
    clear hb2
    go_wp2
    go_ret3
    exact ⟨below_next HB.out (below_next HB1.out HB2.out), by rw [HE.out]; rfl⟩
  · have HE : Hid (wantR true q l = (0, 0, d)) := Lib.hid (by unfold wantR; rw [if_neg (by show ¬ curveE upA l = 0; exact hd ▸ h0)]; rw [hd]; rfl)
    have hf : (d == 0) = false := by rw [beq_eq_false_iff_ne]; exact h0
    clear hd h0
    go_wp2
    go_ret3
    exact ⟨below_next HB.out HB1.out, by rw [HE.out]; rfl⟩
set_option maxRecDepth 100000 in
set_option maxHeartbeats 1000000 in
theorem demand_calls (ok : Nat → Option Obj → Prop) (A : Option Addr) (n c : Nat) (l : List (Int × Int)) (u : Value) (q : Rat) (kq : Nat) (w : World) (h : Row Kd.step ok w (.slice A n c) l)
    (hu : QIn (fun _ _ => True) w u q kq) (hk : kq ≤ 100000000) (hk1 : 1 ≤ kq) :
    Calls Tryz.prog 31 #[.slice A n c, u] w fun e w' => Below w.heap.size w w' ∧ e = .returned (.tuple #[.int .i64 (wantR false q l).1, .int .i64 (wantR false q l).2.1, .int .i64 (wantR false q l).2.2]) := by
  obtain rfl := h.len
  obtain ⟨t0, A0, m0, c0, s0, B0, j0, d0, rfl, HU⟩ := hu.form
  obtain ⟨W, hW, g0, hB, hs⟩ := one_box w (.cells #[.bool t0, .slice A0 m0 c0, .bool s0, .slice B0 j0 d0] 44)
  have G0 := Lib.hid g0
  have HB := Lib.hid hB
  have HR := Lib.hid (h.below hB)
  have HQ := Lib.hid (HU.out.below hB)
  clear g0 hB hs hu h
  go_enter Tryz.func31, Tryz.ntmps31
  go_wp2_with fail
  clear hW
  refine (check_down ok _ _ _ l _ HR.out).mono ?_
  rintro e w1 ⟨hb1, rfl⟩
  have HB1 := Lib.hid hb1
  have hg := heap_below hb1 G0.out
  have a0 : w1.cell? ⟨w.heap.size, 0, none⟩ = some (.bool t0) := hcell hg 0 rfl
  have a1 : w1.cell? ⟨w.heap.size, 1, none⟩ = some (.slice A0 m0 c0) := hcell hg 1 rfl
  have a2 : w1.cell? ⟨w.heap.size, 2, none⟩ = some (.bool s0) := hcell hg 2 rfl
  have a3 : w1.cell? ⟨w.heap.size, 3, none⟩ = some (.slice B0 j0 d0) := hcell hg 3 rfl
  clear hb1 hg
  obtain ⟨d, hd⟩ : ∃ d, d = curveE downA l := ⟨_, rfl⟩
  rw [← hd]
  by_cases h0 : d = 0
  · have hin := curveE_in (hd ▸ h0)
    have HIN := Lib.hid hin
    have HE : Hid (wantR false q l = (leastI false q l, mostI false q l, 0)) := Lib.hid (by unfold wantR; rw [if_pos (by show curveE downA l = 0; exact hd ▸ h0)])
    clear hin hd
    subst h0
    go_wp2_with fail
    refine (wants_calls ok _ _ _ l _ q kq false (-1) rfl _ (HR.out.below HB1.out) HIN.out.2.1 HIN.out.2.2 (HQ.out.below HB1.out) hk hk1).mono ?_
    rintro e w2 ⟨hb2, rfl⟩
    have HB2 := Lib.hid hb2
    clear hb2
    go_wp2
    go_ret3
    exact ⟨below_next HB.out (below_next HB1.out HB2.out), by rw [HE.out]; rfl⟩
  · have HE : Hid (wantR false q l = (0, 0, d)) := Lib.hid (by unfold wantR; rw [if_neg (by show ¬ curveE downA l = 0; exact hd ▸ h0)]; rw [hd]; rfl)
    have hf : (d == 0) = false := by rw [beq_eq_false_iff_ne]; exact h0
    clear hd h0
    go_wp2
    go_ret3
    exact ⟨below_next HB.out HB1.out, by rw [HE.out]; rfl⟩
#print axioms demand_calls
end Go.Proofs.YtlaemhigmgmgjaaGreat
/- What Share and Cost return of valid stacks; canonical fractions as they lie. No condition. -/
namespace Go.Proofs.YtlaemhigmgmgjaaGreat
set_option linter.unusedVariables false
set_option linter.unusedSimpArgs false
open Go.RowKit

theorem wrongE_valid {up : Bool} {L : List Crv} (hv : Valid up L) {q : Rat} (h0 : 0 ≤ q) (h1 : q ≤ ((totalE (stackOf up L) : Int) : Rat)) : wrongE (stackOf up L) q = 0 := by
  unfold wrongE
  rw [if_pos (check_stack hv), if_neg]
  rintro (h | h) <;> grind
theorem shareR_valid {up : Bool} {L : List Crv} (hv : Valid up L) {q : Rat} (h0 : 0 ≤ q) (h1 : q ≤ ((totalE (stackOf up L) : Int) : Rat)) : shareR (stackOf up L) q = (shareX up L q, 0) := by
  unfold shareR
  rw [if_pos (wrongE_valid hv h0 h1)]
  by_cases hS : stackOf up L = []
  · have hL := (stack_nil hv).1 hS
    subst hL
    rfl
  · rw [shareQ_stack hv q hS]
theorem costR_valid {up : Bool} {L : List Crv} (hv : Valid up L) {q : Rat} (h0 : 0 ≤ q) (h1 : q ≤ ((totalE (stackOf up L) : Int) : Rat)) : costR (stackOf up L) q = (costQ (stackOf up L) q, 0) := by
  unfold costR
  rw [if_pos (wrongE_valid hv h0 h1)]
theorem qc_form {ok : Nat → Option Obj → Prop} {w : World} {q : Rat} {cs : List Value} (h : Kd.qc.rel ok w q cs) : ∃ (t : Bool) (A : Option Addr) (m c : Nat) (s : Bool) (B : Option Addr) (j d : Nat), cs = [.bool t, .slice A m c, .bool s, .slice B j d] := by
  obtain ⟨A, c, B, d, rfl, _⟩ := h
  exact ⟨_, A, _, c, _, B, _, d, rfl⟩
/-- A canonical fraction, read. -/
theorem qc_qin {ok : Nat → Option Obj → Prop} {w : World} {q : Rat} {a b c d : Value} {k : Nat} (h : Kd.qc.rel ok w q [a, b, c, d]) (hk : Fits q k) : QIn (fun _ _ => True) w (.agg #[a, b, c, d]) q k := by
  obtain ⟨A, e, B, f, hcs, h1, h2⟩ := h
  simp only [List.cons.injEq, and_true] at hcs
  obtain ⟨rfl, rfl, rfl, rfl⟩ := hcs
  refine ⟨q.num, if q.den = 1 then 0 else (q.den : Int), ⟨_, A, e, _, _, B, f, _, rfl, h1.mono (fun _ _ _ => trivial), h2.mono (fun _ _ _ => trivial), zv_dig _, ?_, hk.1, ?_⟩, fv_num q⟩
  · unfold zv; rw [nv_dig]
    by_cases h : q.den = 1 <;> simp [h]
  · by_cases h : q.den = 1
    · rw [if_pos h, dig_zero]; exact Nat.zero_le _
    · rw [if_neg h]; exact hk.2
theorem qc_cell {ok : Nat → Option Obj → Prop} {w : World} {A : Option Addr} {n c : Nat} {l : List Rat} (h : Row Kd.qc ok w (.slice A n c) l) {k : Nat} (hk : k < l.length) :
    ∃ b off t A1 m1 c1 s A2 m2 c2, A = some ⟨b, off, none⟩ ∧ w.cell? ⟨b, off + k * 4, none⟩ = some (.bool t) ∧ w.cell? ⟨b, off + k * 4 + 1, none⟩ = some (.slice A1 m1 c1) ∧ w.cell? ⟨b, off + k * 4 + 2, none⟩ = some (.bool s) ∧
      w.cell? ⟨b, off + k * 4 + 3, none⟩ = some (.slice A2 m2 c2) ∧ Kd.qc.rel ok w l[k] [.bool t, .slice A1 m1 c1, .bool s, .slice A2 m2 c2] := by
  obtain ⟨A', c', hv, hc, hm, hr⟩ := h
  simp only [Value.slice.injEq] at hv
  obtain ⟨rfl, rfl, rfl⟩ := hv
  obtain ⟨b, off, rfl, _, hj⟩ := hr (by omega)
  obtain ⟨cs, h1, h2⟩ := hj k hk
  obtain ⟨t, A1, m1, c1, s, A2, m2, c2, rfl⟩ := qc_form h1
  have e0 := h2 0 (by simp)
  have e1 := h2 1 (by simp)
  have e2 := h2 2 (by simp)
  have e3 := h2 3 (by simp)
  exact ⟨b, off, t, A1, m1, c1, s, A2, m2, c2, rfl, e0, e1, e2, e3, h1⟩
/-! ### Sizes of sums and products -/
theorem fits_of {a : Int} {D : Int} {k : Nat} (hD : D ≠ 0) (ha : a.natAbs < 4294967296 ^ k) (hd : D.natAbs < 4294967296 ^ k) : Fits (Rat.divInt a D) k := by
  obtain ⟨m, hm, hn, hd'⟩ := Rat.divInt_num_den (n' := (Rat.divInt a D).num) (d' := (Rat.divInt a D).den) (z' := (Rat.divInt a D).den_nz) (c := (Rat.divInt a D).reduced) hD rfl
  have hm1 : 1 ≤ m.natAbs := Int.natAbs_pos.2 hm
  have e1 : a.natAbs = (Rat.divInt a D).num.natAbs * m.natAbs := by rw [← Int.natAbs_mul, ← hn]
  have e2 : D.natAbs = (Rat.divInt a D).den * m.natAbs := by
    have := congrArg Int.natAbs hd'
    rw [Int.natAbs_mul] at this
    simpa using this
  constructor
  · refine dig_length_le ?_
    have : (Rat.divInt a D).num.natAbs * 1 ≤ (Rat.divInt a D).num.natAbs * m.natAbs := Nat.mul_le_mul_left _ hm1
    omega
  · refine dig_length_le ?_
    have : (Rat.divInt a D).den * 1 ≤ (Rat.divInt a D).den * m.natAbs := Nat.mul_le_mul_left _ hm1
    omega
theorem dig_lt {n k : Nat} (h : (dig n).length ≤ k) : n < 4294967296 ^ k := by
  have h1 := nv_lt (wf_dig n)
  rw [nv_dig] at h1
  exact Nat.lt_of_lt_of_le h1 (Nat.pow_le_pow_right (by decide) h)
theorem fits_add {p q : Rat} {k m : Nat} (hp : Fits p k) (hq : Fits q m) : Fits (p + q) (k + m + 1) := by
  have h1 := dig_lt hp.1
  have h2 := dig_lt hp.2
  have h3 := dig_lt hq.1
  have h4 := dig_lt hq.2
  have e : p + q = Rat.divInt (p.num * q.den + q.num * p.den) (p.den * q.den) := by
    conv => lhs; rw [← Rat.num_divInt_den p, ← Rat.num_divInt_den q]
    rw [Rat.divInt_add_divInt _ _ (by have := p.den_pos; omega) (by have := q.den_pos; omega)]
  rw [e]
  have hk : (4294967296 : Nat) ^ (k + m + 1) = 4294967296 ^ k * 4294967296 ^ m * 4294967296 := by rw [Nat.pow_succ, Nat.pow_add]
  have p1 : p.num.natAbs * q.den < 4294967296 ^ k * 4294967296 ^ m := Nat.mul_lt_mul'' h1 h4
  have p2 : q.num.natAbs * p.den < 4294967296 ^ k * 4294967296 ^ m := by rw [Nat.mul_comm]; exact Nat.mul_lt_mul'' h2 h3
  have p3 : p.den * q.den < 4294967296 ^ k * 4294967296 ^ m := Nat.mul_lt_mul'' h2 h4
  refine fits_of (by have := p.den_pos; have := q.den_pos; exact Int.mul_ne_zero (by omega) (by omega)) ?_ ?_
  · rw [hk]
    have h5 := Int.natAbs_add_le (p.num * q.den) (q.num * p.den)
    rw [Int.natAbs_mul, Int.natAbs_mul] at h5
    simp only [Int.natAbs_natCast] at h5
    omega
  · rw [hk, Int.natAbs_mul]
    simp only [Int.natAbs_natCast]
    omega
theorem fits_neg {p : Rat} {k : Nat} (h : Fits p k) : Fits (-p) k := by
  unfold Fits at *
  rw [Rat.neg_num, Rat.neg_den, Int.natAbs_neg]
  exact h
theorem fits_sub {p q : Rat} {k m : Nat} (hp : Fits p k) (hq : Fits q m) : Fits (p - q) (k + m + 1) := by
  rw [Rat.sub_eq_add_neg]
  exact fits_add hp (fits_neg hq)
theorem fits_mul {p q : Rat} {k m : Nat} (hp : Fits p k) (hq : Fits q m) : Fits (p * q) (k + m) := by
  have h1 := dig_lt hp.1
  have h2 := dig_lt hp.2
  have h3 := dig_lt hq.1
  have h4 := dig_lt hq.2
  have e : p * q = Rat.divInt (p.num * q.num) (p.den * q.den) := by
    conv => lhs; rw [← Rat.num_divInt_den p, ← Rat.num_divInt_den q]
    rw [Rat.divInt_mul_divInt]
  rw [e]
  have hk : (4294967296 : Nat) ^ (k + m) = 4294967296 ^ k * 4294967296 ^ m := Nat.pow_add _ _ _
  refine fits_of (by have := p.den_pos; have := q.den_pos; exact Int.mul_ne_zero (by omega) (by omega)) ?_ ?_
  · rw [hk, Int.natAbs_mul]; exact Nat.mul_lt_mul'' h1 h3
  · rw [hk, Int.natAbs_mul]; simp only [Int.natAbs_natCast]; exact Nat.mul_lt_mul'' h2 h4
/-- A fraction that came in is no longer than its words. -/
theorem QIn.fits {ok : Nat → Option Obj → Prop} {w : World} {v : Value} {q : Rat} {k : Nat} (h : QIn ok w v q k) (hk : 1 ≤ k) : Fits q k := by
  obtain ⟨x, y, ⟨g1, A1, c1, l1, g2, A2, c2, l2, _, r1, r2, hx, hy, k1, k2⟩, rfl⟩ := h
  have w1 : WF l1 := r1.wf
  have w2 : WF l2 := r2.wf
  have n1 := nv_lt w1
  have n2 := nv_lt w2
  have e1 : x.natAbs = nv l1 := by rw [← hx]; unfold zv; cases g1 <;> simp
  have e2 : y.natAbs = nv l2 := by rw [← hy]; unfold zv; cases g2 <;> simp
  have m1 : (4294967296 : Nat) ^ l1.length ≤ 4294967296 ^ k := Nat.pow_le_pow_right (by decide) k1
  have m2 : (4294967296 : Nat) ^ l2.length ≤ 4294967296 ^ k := Nat.pow_le_pow_right (by decide) k2
  have m3 : (4294967296 : Nat) ^ 1 ≤ 4294967296 ^ k := Nat.pow_le_pow_right (by decide) hk
  unfold fv
  by_cases h0 : y = 0
  · rw [if_pos h0, ← divInt_one x]
    exact fits_of (by decide) (by omega) (by show 1 < _; omega)
  · rw [if_neg h0]
    exact fits_of h0 (by omega) (by omega)
#print axioms QIn.fits
#print axioms shareR_valid
end Go.Proofs.YtlaemhigmgmgjaaGreat
