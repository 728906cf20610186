/- Several texts of my own, joined. No condition beyond what each theorem states. -/
import Derived.Test.YtlaemhigmgmgjaaGreatK12
import Derived.Test.YtlaemhigmgmgjaaGreatK5
/- The law helpers of the market: curve, numbers, Same, found, may, some, Long. No condition beyond sizes. -/
namespace Go.Proofs.YtlaemhigmgmgjaaGreat
set_option linter.unusedVariables false
set_option linter.unusedSimpArgs false
open Go.RowKit

set_option maxRecDepth 100000 in
set_option maxHeartbeats 2000000 in
theorem curve25_calls (ok : Nat → Option Obj → Prop) (A : Option Addr) (n c : Nat) (l : List Int) (w : World) (h : Row Kd.i64 ok w (.slice A n c) l) (hl : l.length ≤ 1000) :
    Calls Tryz.prog 34 #[.slice A n c] w fun e w' => Below w.heap.size w w' ∧ ∃ A' n' c', e = .returned (.slice A' n' c') ∧ Row Kd.step (New w.heap.size) w' (.slice A' n' c') (pairsOf l) := by
  obtain rfl := h.len
  have HR := Lib.hid h
  clear h
  go_enter Tryz.func34, Tryz.ntmps34
  go_wp2_with fail
  go_loopw [3, 4] (fun out i wr => ∃ k : Nat, 2 * k ≤ l.length ∧ i = .int .i64 ((2 * k : Nat) : Int) ∧ Hid (Below w.heap.size w wr) ∧ Hid (Own Kd.step 99 w.heap.size (fun _ _ => False) wr out ((pairsOf l).take k)))
    (fun _ i _ => l.length - (intOf i).toNat)
  case atStart => exact ⟨0, by omega, rfl, Below.refl _ _, Own.nil _ _ _ _ _⟩
  case round =>
    obtain ⟨k, hk, rfl, HBW, HOWN⟩ := hrel
    obtain ⟨Ao, co, hAo⟩ := HOWN.out.form
    by_cases hlt : 2 * k + 1 < l.length
    · have hkl : k < (pairsOf l).length := by rw [pairsOf_len]; omega
      have hlen : ((pairsOf l).take k).length = k := by rw [List.length_take]; omega
      rw [hlen] at hAo
      subst hAo
      obtain ⟨b, off, rfl, hq, iq⟩ := i64_cell HR.out (k := 2 * k) (by omega)
      obtain ⟨b', off', hA', hp, ip⟩ := i64_cell HR.out (k := 2 * k + 1) hlt
      obtain ⟨rfl, rfl⟩ : b = b' ∧ off = off' := by simpa using hA'
      have hg := pairsOf_get l k hkl (by omega) hlt
      have hts := List.take_succ_eq_append_getElem hkl
      rw [hg] at hts
      obtain ⟨q, hqd⟩ : ∃ q, q = l[2 * k] := ⟨_, rfl⟩
      obtain ⟨p, hpd⟩ : ∃ p, p = l[2 * k + 1] := ⟨_, rfl⟩
      rw [← hqd, ← hpd] at hts
      rw [← hqd] at hq iq
      rw [← hpd] at hp ip
      have HTS := Lib.hid hts
      have HIQ := Lib.hid (And.intro iq ip)
      have hlt2 : ((2 * k : Nat) : Int) + 1 < (l.length : Int) := by omega
      have hi0 : (0 : Int) ≤ ((2 * k : Nat) : Int) := by omega
      have hi1 : ((2 * k : Nat) : Int) < (l.length : Int) := by omega
      have hi2 : (0 : Int) ≤ ((2 * k : Nat) : Int) + 1 := by omega
      clear hA' hg hts hqd hpd iq ip hlen
      obtain ⟨i, hi⟩ : ∃ i, i = 2 * k := ⟨_, rfl⟩
      rw [← hi] at hq hp hlt2 hi0 hi1 hi2
      rw [← hi]
      have HI := Lib.hid hi
      have hwr : IntKind.i64.wrap ((i : Int) + 1) = (i : Int) + 1 := IntWalk.i64_in _ ⟨by omega, by omega⟩
      clear hi hlt
      go_wp2_with fail
      go_region_held_law (fun w' => Below w.heap.size w w' ∧ w'.cell? ⟨b, off + i, none⟩ = some (.int .i64 q) ∧ w'.cell? ⟨b, off + (i + 1), none⟩ = some (.int .i64 p))
        ((refine (fun hBn => ⟨hBn, cell_below hBn hq, cell_below hBn hp⟩) ?_; (repeat (first | with_reducible exact HBX.out | with_reducible exact HBW.out | with_reducible refine bd_drew ?_ | with_reducible refine bd_alloc0 ?_ _))))
        ((refine step_append (by rfl) _ _ 23 (by rfl) _ _ (by rfl) (by rfl) _ (run_append Kd.step 23 _ 99 _ 16 Tryz.underlying23 info_step rfl (by decide) w.heap.size (fun _ _ => False) (.slice Ao k co) ((pairsOf l).take k) (by first | exact HOWN.out.below (below_alloc wr _) | exact HOWN.out.below (below_drew (below_alloc wr _))) _ [(q, p)] (Elems.one (cs := #[.int .i64 q, .int .i64 p]) ⟨rfl, HIQ.out⟩ (by first | exact alloc_last rfl | exact heap_drew (alloc_last rfl))) (by simp; omega) (‹Below w.heap.size w _ ∧ _›).1.size) ?_; rintro v3 w3 ⟨hown3, hg3, _⟩; have HBX : Hid (Below w.heap.size w w3) := Lib.hid (below_grown (‹Below w.heap.size w _ ∧ _›).1 hg3 (fun j hj => (HOWN.out.base_le j hj).1)); have HO3 := Lib.hid hown3; clear hown3 hg3))
      have hwr2 : IntKind.i64.wrap ((i : Int) + 2) = (i : Int) + 2 := IntWalk.i64_in _ ⟨by omega, by omega⟩
      go_wp2
      go_roundw
      case rel => exact ⟨k + 1, by have := HI.out; omega, by have := HI.out; congr 1; omega, HBX.out, by rw [HTS.out]; exact HO3.out.mono (fun _ _ h => by first | exact h | exact h.1) (fun _ _ h => h.elim)⟩
      case measure => simp [intOf]; omega
    · have hkk : (pairsOf l).take k = pairsOf l := List.take_of_length_le (by rw [pairsOf_len]; omega)
      rw [hkk] at hAo HOWN
      subst hAo
      obtain ⟨i, hi⟩ : ∃ i, i = 2 * k := ⟨_, rfl⟩
      rw [← hi]
      have hge : (l.length : Int) ≤ (i : Int) + 1 := by omega
      have hwr : IntKind.i64.wrap ((i : Int) + 1) = (i : Int) + 1 := IntWalk.i64_in _ ⟨by omega, by omega⟩
      clear hi hlt hkk
      go_wp2
      go_ret
      exact ⟨HBW.out, _, _, _, rfl, HOWN.out.new (fun _ _ h => h.elim) (Nat.le_refl _)⟩

set_option maxRecDepth 100000 in
set_option maxHeartbeats 1000000 in
theorem some_calls (v : Value) (A : Option Addr) (n c : Nat) (w : World) : Calls Tryz.prog 11 #[.slice A n c] w fun e w' => w' = w ∧ e = .returned (.slice A n c) := by
  go_enter Tryz.func11, Tryz.ntmps11
  go_wp2
  go_ret
  exact ⟨rfl, rfl⟩
set_option maxRecDepth 100000 in
set_option maxHeartbeats 1000000 in
theorem long25_calls (ok : Nat → Option Obj → Prop) (A : Option Addr) (n c : Nat) (O : List Crv) (A2 : Option Addr) (n2 c2 : Nat) (B : List Crv) (w : World) (h : Row Kd.curve ok w (.slice A n c) O) (h2 : Row Kd.curve ok w (.slice A2 n2 c2) B) :
    Calls Tryz.prog 9 #[.slice A n c, .slice A2 n2 c2] w fun e w' => w' = w ∧ e = .returned (.bool (longP O || longP B)) := by
  have HR := Lib.hid h
  have HR2 := Lib.hid h2
  obtain ⟨a, ha⟩ : ∃ a, a = longP O := ⟨_, rfl⟩
  obtain ⟨b, hb⟩ : ∃ b, b = longP B := ⟨_, rfl⟩
  rw [← ha, ← hb]
  have HA := Lib.hid ha
  have HB := Lib.hid hb
  clear h h2 ha hb
  go_enter Tryz.func9, Tryz.ntmps9
  go_wp2_with fail
  refine (long_calls ok _ _ _ O _ HR.out).mono ?_
  rw [← HA.out]
  rintro e w1 ⟨rfl, rfl⟩
  cases a
  · go_wp2_with fail
    refine (long_calls ok _ _ _ B _ HR2.out).mono ?_
    rw [← HB.out]
    rintro e w1 ⟨rfl, rfl⟩
    go_wp2
    go_ret
    exact ⟨rfl, by simp⟩
  · go_wp2
    go_ret
    exact ⟨rfl, by simp⟩
set_option maxRecDepth 100000 in
set_option maxHeartbeats 1000000 in
theorem may_calls (ok : Nat → Option Obj → Prop) (A : Option Addr) (n c : Nat) (O : List Crv) (A2 : Option Addr) (n2 c2 : Nat) (B : List Crv) (w : World) (h : Row Kd.curve ok w (.slice A n c) O) (h2 : Row Kd.curve ok w (.slice A2 n2 c2) B) :
    Calls Tryz.prog 12 #[.slice A n c, .slice A2 n2 c2] w fun e w' => Below w.heap.size w w' ∧ e = .returned (.bool ((runR O B).2 == 0)) := by
  have HR := Lib.hid h
  have HR2 := Lib.hid h2
  obtain ⟨r, hr⟩ : ∃ r, r = runR O B := ⟨_, rfl⟩
  rw [← hr]
  have HRR := Lib.hid hr
  clear h h2 hr
  go_enter Tryz.func12, Tryz.ntmps12
  go_wp2_with fail
  refine (run_calls ok _ _ _ O _ _ _ B _ HR.out HR2.out).mono ?_
  rw [← HRR.out]
  rintro e w1 ⟨hb1, v1, rfl, hv1⟩
  obtain ⟨A1, A3, c1, c3, rfl, -, -⟩ := hv1
  have HB1 := Lib.hid hb1
  clear hb1
  obtain ⟨l1, hl1⟩ : ∃ l, l = r.1.sup.length := ⟨_, rfl⟩
  obtain ⟨l2, hl2⟩ : ∃ l, l = r.1.bou.length := ⟨_, rfl⟩
  rw [← hl1, ← hl2]
  clear hl1 hl2
  go_wp2
  go_ret
  exact ⟨below_next HB1.out (below_alloc _ _), rfl⟩

set_option maxRecDepth 100000 in
set_option maxHeartbeats 1000000 in
theorem refnums_calls (ok : Nat → Option Obj → Prop) (A : Option Addr) (n c : Nat) (xs : List Int) (A2 : Option Addr) (n2 c2 : Nat) (ys : List Int) (w : World) (h : Row Kd.i64 ok w (.slice A n c) xs) (h2 : Row Kd.i64 ok w (.slice A2 n2 c2) ys) :
    Calls Tryz.prog 49 #[.slice A n c, .slice A2 n2 c2] w fun e w' => Below w.heap.size w w' ∧ e = .returned (.bool (decide (xs = ys))) := by
  obtain rfl := h.len
  obtain rfl := h2.len
  have hm := h.small
  have hm2 := h2.small
  have HR := Lib.hid h
  have HR2 := Lib.hid h2
  clear h h2
  obtain ⟨r, hr⟩ : ∃ r, r = decide (xs = ys) := ⟨_, rfl⟩
  rw [← hr]
  have HRR := Lib.hid hr
  clear hr
  go_enter Tryz.func49, Tryz.ntmps49
  by_cases hl : xs.length = ys.length
  · have hl' : ((xs.length : Int) != (ys.length : Int)) = false := by simp [hl]
    have HL := Lib.hid hl
    clear hl
    go_wp2_with fail
    go_loopw [5] (fun i wr => ∃ k : Nat, k ≤ xs.length ∧ i = .int .i64 k ∧ Hid (xs.take k = ys.take k) ∧ Hid (Below w.heap.size w wr))
      (fun i _ => xs.length - (intOf i).toNat)
    case atStart => exact ⟨0, Nat.zero_le _, rfl, rfl, Below.refl _ _⟩
    case round =>
      obtain ⟨k, hk, rfl, HT, HBW⟩ := hrel
      by_cases hlt : k < xs.length
      · have hlt2 : k < ys.length := by have := HL.out; omega
        obtain ⟨b, off, rfl, hq, iq⟩ := i64_cell (HR.out.below HBW.out).drew hlt
        obtain ⟨b2, off2, rfl, hp, ip⟩ := i64_cell (HR2.out.below HBW.out).drew hlt2
        obtain ⟨x, hx⟩ : ∃ x, x = xs[k] := ⟨_, rfl⟩
        obtain ⟨y, hy⟩ : ∃ y, y = ys[k] := ⟨_, rfl⟩
        have hi0 : (0 : Int) ≤ (k : Int) := by omega
        have hi1 : (k : Int) < (xs.length : Int) := by omega
        have hi2 : (k : Int) < (ys.length : Int) := by omega
        rw [← hx] at hq
        rw [← hy] at hp
        have HBD := Lib.hid (below_drew HBW.out)
        by_cases hxy : x = y
        · have HT2 : Hid (xs.take (k + 1) = ys.take (k + 1)) := Lib.hid (by rw [List.take_succ_eq_append_getElem hlt, List.take_succ_eq_append_getElem hlt2, HT.out, ← hx, ← hy, hxy])
          clear hx hy iq ip
          subst hxy
          go_upto_region 6 with fail
          go_region
          all_goals
            go_wp2
            go_roundw
            case rel => exact ⟨k + 1, hlt, by go_num, HT2.out, HBD.out⟩
            case measure => simp [intOf]; omega
        · have HE : Hid (r = false) := Lib.hid (by
            rw [HRR.out]
            refine decide_eq_false (fun e => hxy ?_)
            subst e
            rw [hx, hy])
          have hne : (x != y) = true := by simp [bne, hxy]
          have hne2 : (x == y) = false := by rw [beq_eq_false_iff_ne]; exact hxy
          clear hx hy iq ip hxy
          go_upto_region 6 with fail
          go_region
          all_goals
            go_wp2
            go_ret
            exact ⟨HBD.out, by rw [HE.out]; rfl⟩
      · obtain rfl : k = xs.length := by omega
        have HE : Hid (r = true) := Lib.hid (by
          rw [HRR.out]
          refine decide_eq_true ?_
          have h1 := HT.out
          rw [List.take_length, HL.out, List.take_length] at h1
          exact h1)
        go_wp2
        go_ret
        exact ⟨HBW.out, by rw [HE.out]; rfl⟩
  · have hl' : ((xs.length : Int) != (ys.length : Int)) = true := by simp [bne]; omega
    have hl2 : ((xs.length : Int) == (ys.length : Int)) = false := by rw [beq_eq_false_iff_ne]; omega
    have HE : Hid (r = false) := Lib.hid (by rw [HRR.out]; exact decide_eq_false (fun e => hl (by rw [e])))
    clear hl
    go_wp2
    go_ret
    exact ⟨Below.refl _ _, by rw [HE.out]; rfl⟩
#print axioms refnums_calls
end Go.Proofs.YtlaemhigmgmgjaaGreat
/- The law helper Same of the market: what it returns. No condition beyond sizes. -/
namespace Go.Proofs.YtlaemhigmgmgjaaGreat
set_option linter.unusedVariables false
set_option linter.unusedSimpArgs false
open Go.RowKit

def sameR (x y : Res) : Bool := decide (x.qty = y.qty ∧ x.price = y.price ∧ x.wel = y.wel ∧ x.sup = y.sup ∧ x.bou = y.bou)
set_option maxRecDepth 100000 in
set_option maxHeartbeats 2000000 in
theorem same25_calls (ok : Nat → Option Obj → Prop) (a b c d e f : Int) (A1 A2 A3 A4 : Option Addr) (n1 n2 n3 n4 c1 c2 c3 c4 : Nat) (s1 s2 s3 s4 : List Int) (w : World)
    (h1 : Row Kd.i64 ok w (.slice A1 n1 c1) s1) (h2 : Row Kd.i64 ok w (.slice A2 n2 c2) s2) (h3 : Row Kd.i64 ok w (.slice A3 n3 c3) s3) (h4 : Row Kd.i64 ok w (.slice A4 n4 c4) s4) :
    Calls Tryz.prog 18 #[.agg #[.int .i64 a, .int .i64 b, .int .i64 c, .slice A1 n1 c1, .slice A2 n2 c2], .agg #[.int .i64 d, .int .i64 e, .int .i64 f, .slice A3 n3 c3, .slice A4 n4 c4]] w fun ee w' =>
      Below w.heap.size w w' ∧ ee = .returned (.bool (decide (a = d ∧ b = e ∧ c = f ∧ s1 = s3 ∧ s2 = s4))) := by
  obtain ⟨r, hr⟩ : ∃ r, r = decide (a = d ∧ b = e ∧ c = f ∧ s1 = s3 ∧ s2 = s4) := ⟨_, rfl⟩
  rw [← hr]
  obtain ⟨W, hW, g0, g1, hB, hs⟩ := two_boxes w (.cells #[.int .i64 a, .int .i64 b, .int .i64 c, .slice A1 n1 c1, .slice A2 n2 c2] 39) (.cells #[.int .i64 d, .int .i64 e, .int .i64 f, .slice A3 n3 c3, .slice A4 n4 c4] 39)
  have x0 : W.cell? ⟨w.heap.size, 0, none⟩ = some (.int .i64 a) := hcell g0 0 rfl
  have x1 : W.cell? ⟨w.heap.size, 1, none⟩ = some (.int .i64 b) := hcell g0 1 rfl
  have x2 : W.cell? ⟨w.heap.size, 2, none⟩ = some (.int .i64 c) := hcell g0 2 rfl
  have x3 : W.cell? ⟨w.heap.size, 3, none⟩ = some (.slice A1 n1 c1) := hcell g0 3 rfl
  have x4 : W.cell? ⟨w.heap.size, 4, none⟩ = some (.slice A2 n2 c2) := hcell g0 4 rfl
  have y0 : W.cell? ⟨w.heap.size + 1, 0, none⟩ = some (.int .i64 d) := hcell g1 0 rfl
  have y1 : W.cell? ⟨w.heap.size + 1, 1, none⟩ = some (.int .i64 e) := hcell g1 1 rfl
  have y2 : W.cell? ⟨w.heap.size + 1, 2, none⟩ = some (.int .i64 f) := hcell g1 2 rfl
  have y3 : W.cell? ⟨w.heap.size + 1, 3, none⟩ = some (.slice A3 n3 c3) := hcell g1 3 rfl
  have y4 : W.cell? ⟨w.heap.size + 1, 4, none⟩ = some (.slice A4 n4 c4) := hcell g1 4 rfl
  have HB := Lib.hid hB
  have G0 := Lib.hid g0
  have G1 := Lib.hid g1
  have H1 := Lib.hid (h1.below hB)
  have H2 := Lib.hid (h2.below hB)
  have H3 := Lib.hid (h3.below hB)
  have H4 := Lib.hid (h4.below hB)
  have HRR := Lib.hid hr
  clear g0 g1 hB hs hr h1 h2 h3 h4
  go_enter Tryz.func18, Tryz.ntmps18
  by_cases e1 : a = d
  · by_cases e2 : b = e
    · by_cases e3 : c = f
      · obtain ⟨v, hv⟩ : ∃ v, v = decide (s1 = s3) := ⟨_, rfl⟩
        obtain ⟨u, hu⟩ : ∃ u, u = decide (s2 = s4) := ⟨_, rfl⟩
        have HE : Hid (r = (v && u)) := Lib.hid (by rw [HRR.out, hv, hu, e1, e2, e3]; simp)
        have HVV := Lib.hid hv
        have HUU := Lib.hid hu
        subst e1 e2 e3
        clear hv hu
        go_wp2_with fail
        clear hW
        refine (refnums_calls ok _ _ _ s1 _ _ _ s3 _ H1.out H3.out).mono ?_
        rw [← HVV.out]
        rintro ee w1 ⟨hb1, rfl⟩
        have x4 := cell_below hb1 x4
        have y4 := cell_below hb1 y4
        have HB1 := Lib.hid (below_next HB.out hb1)
        have H2 := Lib.hid (H2.out.below hb1)
        have H4 := Lib.hid (H4.out.below hb1)
        clear hb1 x0 x1 x2 x3 y0 y1 y2 y3
        cases v
        · go_wp2
          go_ret
          exact ⟨HB1.out, by rw [HE.out]; rfl⟩
        · go_wp2_with fail
          refine (refnums_calls ok _ _ _ s2 _ _ _ s4 _ H2.out H4.out).mono ?_
          rw [← HUU.out]
          rintro ee w2 ⟨hb2, rfl⟩
          have HB2 := Lib.hid (below_next HB1.out hb2)
          clear hb2
          go_wp2
          go_ret
          exact ⟨HB2.out, by rw [HE.out]; simp⟩
      · have HE : Hid (r = false) := Lib.hid (by rw [HRR.out]; exact decide_eq_false (fun h => e3 h.2.2.1))
        have f3 : (c == f) = false := by rw [beq_eq_false_iff_ne]; exact e3
        subst e1 e2
        clear e3
        go_wp2
        go_ret
        exact ⟨HB.out, by rw [HE.out]; rfl⟩
    · have HE : Hid (r = false) := Lib.hid (by rw [HRR.out]; exact decide_eq_false (fun h => e2 h.2.1))
      have f3 : (b == e) = false := by rw [beq_eq_false_iff_ne]; exact e2
      subst e1
      clear e2
      go_wp2
      go_ret
      exact ⟨HB.out, by rw [HE.out]; rfl⟩
  · have HE : Hid (r = false) := Lib.hid (by rw [HRR.out]; exact decide_eq_false (fun h => e1 h.1))
    have f3 : (a == d) = false := by rw [beq_eq_false_iff_ne]; exact e1
    clear e1
    go_wp2
    go_ret
    exact ⟨HB.out, by rw [HE.out]; rfl⟩
#print axioms same25_calls
end Go.Proofs.YtlaemhigmgmgjaaGreat
/- The law helper found of the market: true if Run returns the given result. No condition beyond sizes. -/
namespace Go.Proofs.YtlaemhigmgmgjaaGreat
set_option linter.unusedVariables false
set_option linter.unusedSimpArgs false
open Go.RowKit

set_option maxRecDepth 100000 in
set_option maxHeartbeats 2000000 in
theorem found_calls (ok : Nat → Option Obj → Prop) (A : Option Addr) (n c : Nat) (O : List Crv) (A2 : Option Addr) (n2 c2 : Nat) (B : List Crv) (q p l : Int) (A3 : Option Addr) (n3 c3 : Nat) (gs : List Int) (A4 : Option Addr) (n4 c4 : Nat) (ts : List Int) (w : World)
    (h : Row Kd.curve ok w (.slice A n c) O) (h2 : Row Kd.curve ok w (.slice A2 n2 c2) B) (h3 : Row Kd.i64 AnyB w (.slice A3 n3 c3) gs) (h4 : Row Kd.i64 AnyB w (.slice A4 n4 c4) ts) (hr : runR O B = (⟨q, p, l, gs, ts⟩, 0)) :
    Calls Tryz.prog 35 #[.slice A n c, .slice A2 n2 c2, .int .i64 q, .int .i64 p, .int .i64 l, .slice A3 n3 c3, .slice A4 n4 c4] w fun e w' => Below w.heap.size w w' ∧ e = .returned (.bool true) := by
  have HR := Lib.hid h
  have HR2 := Lib.hid h2
  have H3 := Lib.hid h3
  have H4 := Lib.hid h4
  have HRR := Lib.hid hr
  clear h h2 h3 h4 hr
  go_enter Tryz.func35, Tryz.ntmps35
  go_wp2_with fail
  refine (run_calls ok _ _ _ O _ _ _ B _ HR.out HR2.out).mono ?_
  rw [HRR.out]
  rintro e w1 ⟨hb1, v1, rfl, A5, A6, c5, c6, rfl, hg, ht⟩
  have HB1 := Lib.hid hb1
  have HG := Lib.hid hg.all
  have HT := Lib.hid ht.all
  have H3 := Lib.hid (H3.out.below hb1)
  have H4 := Lib.hid (H4.out.below hb1)
  clear hb1 hg ht
  obtain ⟨WF, hWF, gF, hBF, hsF⟩ := one_box w1 (.cells #[.int .i64 q, .int .i64 p, .int .i64 l, .slice A5 gs.length c5, .slice A6 ts.length c6] 30)
  have z0 : WF.cell? ⟨w1.heap.size, 0, none⟩ = some (.int .i64 q) := hcell gF 0 rfl
  have z1 : WF.cell? ⟨w1.heap.size, 1, none⟩ = some (.int .i64 p) := hcell gF 1 rfl
  have z2 : WF.cell? ⟨w1.heap.size, 2, none⟩ = some (.int .i64 l) := hcell gF 2 rfl
  have z3 : WF.cell? ⟨w1.heap.size, 3, none⟩ = some (.slice A5 gs.length c5) := hcell gF 3 rfl
  have z4 : WF.cell? ⟨w1.heap.size, 4, none⟩ = some (.slice A6 ts.length c6) := hcell gF 4 rfl
  have HWF := Lib.hid hWF
  have HBF := Lib.hid hBF
  clear gF hsF hWF hBF
  go_upto_region 2 with fail
  rw [HWF.out]
  go_wp2_with fail
  refine (same25_calls AnyB q p l q p l _ _ _ _ _ _ _ _ _ _ _ _ gs ts gs ts _ (HG.out.below HBF.out) (HT.out.below HBF.out) (H3.out.below HBF.out) (H4.out.below HBF.out)).mono ?_
  rw [decide_eq_true (show q = q ∧ p = p ∧ l = l ∧ gs = gs ∧ ts = ts from ⟨rfl, rfl, rfl, rfl, rfl⟩)]
  rintro e w2 ⟨hb2, rfl⟩
  have HB2 := Lib.hid (below_next (below_next HB1.out HBF.out) hb2)
  clear hb2
  go_wp2
  go_ret
  exact ⟨HB2.out, rfl⟩
#print axioms found_calls
end Go.Proofs.YtlaemhigmgmgjaaGreat
/- The chapter's examples of the market, as values. Plain. -/
namespace Go.Proofs.YtlaemhigmgmgjaaGreat
set_option linter.unusedVariables false
set_option linter.unusedSimpArgs false

theorem res_eq {x : Res × Int} {q p l e : Int} {s t : List Int} (h : x.1.qty = q ∧ x.1.price = p ∧ x.1.wel = l ∧ x.1.sup = s ∧ x.1.bou = t ∧ x.2 = e) : x = (⟨q, p, l, s, t⟩, e) := by
  obtain ⟨⟨a, b, c, d, f⟩, g⟩ := x
  obtain ⟨rfl, rfl, rfl, rfl, rfl, rfl⟩ := h
  rfl
theorem ex_a : runR [pairsOf [5, 1, 4, 3], pairsOf [3, 2]] [pairsOf [4, 9, 4, 2], pairsOf [3, 4]] = (⟨7, 2, 39, [5, 2], [4, 3]⟩, 0) := res_eq (by decide +kernel)
theorem ex_b : runR [pairsOf [5, 1, 4, 3], pairsOf [3, 2]] [] = (⟨0, 0, 0, [0, 0], []⟩, 0) := res_eq (by decide +kernel)
theorem ex_c : runR [pairsOf [2, -5]] [] = (⟨0, -5, 0, [0], []⟩, 0) := res_eq (by decide +kernel)
theorem ex_d : runR [pairsOf [2, 3]] [pairsOf [5, 8]] = (⟨2, 8, 10, [2], [2]⟩, 0) := res_eq (by decide +kernel)
theorem ex_e : runR [pairsOf [5, 3]] [pairsOf [2, 8]] = (⟨2, 3, 10, [2], [2]⟩, 0) := res_eq (by decide +kernel)
theorem ex_f : runR [pairsOf [5, -4]] [pairsOf [5, 6]] = (⟨5, 0, 50, [5], [5]⟩, 0) := res_eq (by decide +kernel)
#print axioms ex_a
end Go.Proofs.YtlaemhigmgmgjaaGreat
/- The law helper awake of the market: the chapter's examples hold. No condition. Printed by wip/tools/awake25.py. -/
namespace Go.Proofs.YtlaemhigmgmgjaaGreat
set_option linter.unusedVariables false
set_option linter.unusedSimpArgs false
open Go.RowKit

theorem ints_row2 {W : World} {b c n : Nat} {e : TypeId} {fr : Nat × Nat} (l : List Int) (hh : W.heap[b]? = some (.cells (l.map (fun x => Value.int .i64 x)).toArray e fr)) (hi : ∀ x ∈ l, -1000 ≤ x ∧ x ≤ 1000) (hn : n = l.length) (hc : l.length ≤ c) (hm : l.length ≤ 140737488355328) : Row Kd.i64 AnyB W (.slice (some ⟨b, 0, none⟩) n c) l := by
  have e1 : ∀ l : List Int, (l.map (fun x => [Value.int .i64 x])).flatten = l.map (fun x => Value.int .i64 x) := by
    intro l
    induction l with
    | nil => rfl
    | cons a r ih => simp [ih]
  refine Row.blk Kd.i64 l (l.map (fun x => [Value.int .i64 x])) hh ?_ (by simp) (fun j hj hj' => ?_) trivial hn hc hm
  · rw [e1]
  · rw [List.getElem_map]; have := hi _ (List.getElem_mem hj); exact ⟨rfl, by omega, by omega⟩
theorem one_row {α : Type} (K : Kd α) {W : World} {b c : Nat} {e : TypeId} {fr : Nat × Nat} {v : Value} {l : List α} (hh : W.heap[b]? = some (.cells #[v] e fr)) (h1 : Row K AnyB W v l) (hc : 1 ≤ c) : Row (Kd.slice K) AnyB W (.slice (some ⟨b, 0, none⟩) 1 c) [l] :=
  Row.blk (Kd.slice K) [l] [[v]] hh rfl rfl (fun j hj hj' => by
    match j, hj with
    | 0, _ => exact ⟨v, rfl, h1⟩) trivial rfl hc (by simp)
theorem some_row (A : Option Addr) (n c : Nat) (L : List Crv) (w : World) (h : Row Kd.curve AnyB w (.slice A n c) L) :
    Calls Tryz.prog 11 #[.slice A n c] w fun e w' => Below w.heap.size w w' ∧ e = .returned (.slice A n c) ∧ Row Kd.curve AnyB w' (.slice A n c) L :=
  (some_calls (.slice A n c) A n c w).mono fun _ _ hh => by
    obtain ⟨rfl, h2⟩ := hh
    exact ⟨Below.refl _ _, h2, h⟩
set_option maxRecDepth 100000 in
set_option maxHeartbeats 4000000 in
theorem awake25_calls (w : World) :
    Calls Tryz.prog 13 #[] w fun e w' => Below w.heap.size w w' ∧ e = .returned (.bool true) := by
  go_enter Tryz.func13, Tryz.ntmps13
  go_wp2_with fail
  refine (curve25_calls AnyB _ _ _ [5, 1, 4, 3] _ (by exact ints_row2 [5, 1, 4, 3] (alloc_last rfl) (by decide) rfl (by simp) (by simp)) (by simp)).mono ?_
  rintro e w1 ⟨hb1, A1, n1, c1, rfl, hr1⟩
  have K1 := Lib.hid hr1.all
  have HB := Lib.hid (below_next (bd_alloc0 (Below.refl _ _) _) hb1)
  clear hb1 hr1
  go_wp2_with fail
  refine (curve25_calls AnyB _ _ _ [3, 2] _ (by exact ints_row2 [3, 2] (alloc_last rfl) (by decide) rfl (by simp) (by simp)) (by simp)).mono ?_
  rintro e w2 ⟨hb2, A2, n2, c2, rfl, hr2⟩
  have K1 := Lib.hid ((K1.out.below (below_alloc _ _)).below hb2)
  have K2 := Lib.hid hr2.all
  have HB := Lib.hid (below_next (bd_alloc0 HB.out _) hb2)
  clear hb2 hr2
  go_wp2_with fail
  refine (some_row _ _ _ [_, _] _ (two_rows Kd.step (alloc_last rfl) (K1.out.below (below_alloc _ _)) (K2.out.below (below_alloc _ _)) (by simp))).mono ?_
  rintro e w3 ⟨hb3, rfl, hr3⟩
  have K1 := Lib.hid ((K1.out.below (below_alloc _ _)).below hb3)
  have K2 := Lib.hid ((K2.out.below (below_alloc _ _)).below hb3)
  have OO := Lib.hid hr3
  have HB := Lib.hid (below_next (bd_alloc0 HB.out _) hb3)
  clear hb3 hr3
  go_wp2_with fail
  clear K1 K2
  refine (curve25_calls AnyB _ _ _ [4, 9, 4, 2] _ (by exact ints_row2 [4, 9, 4, 2] (alloc_last rfl) (by decide) rfl (by simp) (by simp)) (by simp)).mono ?_
  rintro e w4 ⟨hb4, A4, n4, c4, rfl, hr4⟩
  have OO := Lib.hid ((OO.out.below (below_alloc _ _)).below hb4)
  have K3 := Lib.hid hr4.all
  have HB := Lib.hid (below_next (bd_alloc0 HB.out _) hb4)
  clear hb4 hr4
  go_wp2_with fail
  refine (curve25_calls AnyB _ _ _ [3, 4] _ (by exact ints_row2 [3, 4] (alloc_last rfl) (by decide) rfl (by simp) (by simp)) (by simp)).mono ?_
  rintro e w5 ⟨hb5, A5, n5, c5, rfl, hr5⟩
  have OO := Lib.hid ((OO.out.below (below_alloc _ _)).below hb5)
  have K3 := Lib.hid ((K3.out.below (below_alloc _ _)).below hb5)
  have K4 := Lib.hid hr5.all
  have HB := Lib.hid (below_next (bd_alloc0 HB.out _) hb5)
  clear hb5 hr5
  go_wp2_with fail
  refine (some_row _ _ _ [_, _] _ (two_rows Kd.step (alloc_last rfl) (K3.out.below (below_alloc _ _)) (K4.out.below (below_alloc _ _)) (by simp))).mono ?_
  rintro e w6 ⟨hb6, rfl, hr6⟩
  have OO := Lib.hid ((OO.out.below (below_alloc _ _)).below hb6)
  have K3 := Lib.hid ((K3.out.below (below_alloc _ _)).below hb6)
  have K4 := Lib.hid ((K4.out.below (below_alloc _ _)).below hb6)
  have BB := Lib.hid hr6
  have HB := Lib.hid (below_next (bd_alloc0 HB.out _) hb6)
  clear hb6 hr6
  go_wp2_with fail
  clear K3 K4
  refine (found_calls AnyB _ _ _ [pairsOf [5, 1, 4, 3], pairsOf [3, 2]] _ _ _ [pairsOf [4, 9, 4, 2], pairsOf [3, 4]] (7) (2) (39) _ _ _ [5, 2] _ _ _ [4, 3] _ (by exact ((OO.out.below (below_alloc _ _)).below (below_alloc _ _))) (by exact ((BB.out.below (below_alloc _ _)).below (below_alloc _ _))) (by exact ints_row2 [5, 2] (alloc_elder (alloc_last rfl)) (by decide) rfl (by simp) (by simp)) (by exact ints_row2 [4, 3] (alloc_last (by simp)) (by decide) rfl (by simp) (by simp)) ex_a).mono ?_
  rintro e w7 ⟨hb7, rfl⟩
  have OO := Lib.hid (((OO.out.below (below_alloc _ _)).below (below_alloc _ _)).below hb7)
  have BB := Lib.hid (((BB.out.below (below_alloc _ _)).below (below_alloc _ _)).below hb7)
  have HB := Lib.hid (below_next (bd_alloc0 (bd_alloc0 HB.out _) _) hb7)
  clear hb7
  go_wp2_with fail
  clear BB
  refine (found_calls AnyB _ _ _ [pairsOf [5, 1, 4, 3], pairsOf [3, 2]] _ _ _ [] (0) (0) (0) _ _ _ [0, 0] _ _ _ [] _ (by exact (OO.out.below (below_alloc _ _))) (by exact (Row.nil 0 none (fun _ => rfl))) (by exact ints_row2 [0, 0] (alloc_last rfl) (by decide) rfl (by simp) (by simp)) (Row.nil 0 none (fun _ => rfl)) ex_b).mono ?_
  rintro e w8 ⟨hb8, rfl⟩
  have OO := Lib.hid ((OO.out.below (below_alloc _ _)).below hb8)
  have HB := Lib.hid (below_next (bd_alloc0 HB.out _) hb8)
  clear hb8
  go_wp2_with fail
  clear OO
  refine (curve25_calls AnyB _ _ _ [2, -5] _ (by exact ints_row2 [2, -5] (alloc_last rfl) (by decide) rfl (by simp) (by simp)) (by simp)).mono ?_
  rintro e w9 ⟨hb9, A9, n9, c9, rfl, hr9⟩
  have K1 := Lib.hid hr9.all
  have HB := Lib.hid (below_next (bd_alloc0 HB.out _) hb9)
  clear hb9 hr9
  go_wp2_with fail
  refine (some_row _ _ _ [_] _ (one_row Kd.step (alloc_last rfl) (K1.out.below (below_alloc _ _)) (by simp))).mono ?_
  rintro e w10 ⟨hb10, rfl, hr10⟩
  have K1 := Lib.hid ((K1.out.below (below_alloc _ _)).below hb10)
  have OO := Lib.hid hr10
  have HB := Lib.hid (below_next (bd_alloc0 HB.out _) hb10)
  clear hb10 hr10
  go_wp2_with fail
  clear K1
  refine (found_calls AnyB _ _ _ [pairsOf [2, -5]] _ _ _ [] (0) (-5) (0) _ _ _ [0] _ _ _ [] _ (by exact (OO.out.below (below_alloc _ _))) (by exact (Row.nil 0 none (fun _ => rfl))) (by exact ints_row2 [0] (alloc_last rfl) (by decide) rfl (by simp) (by simp)) (Row.nil 0 none (fun _ => rfl)) ex_c).mono ?_
  rintro e w11 ⟨hb11, rfl⟩
  have OO := Lib.hid ((OO.out.below (below_alloc _ _)).below hb11)
  have HB := Lib.hid (below_next (bd_alloc0 HB.out _) hb11)
  clear hb11
  go_wp2_with fail
  clear OO
  refine (curve25_calls AnyB _ _ _ [2, 3] _ (by exact ints_row2 [2, 3] (alloc_last rfl) (by decide) rfl (by simp) (by simp)) (by simp)).mono ?_
  rintro e w12 ⟨hb12, A12, n12, c12, rfl, hr12⟩
  have K1 := Lib.hid hr12.all
  have HB := Lib.hid (below_next (bd_alloc0 HB.out _) hb12)
  clear hb12 hr12
  go_wp2_with fail
  refine (some_row _ _ _ [_] _ (one_row Kd.step (alloc_last rfl) (K1.out.below (below_alloc _ _)) (by simp))).mono ?_
  rintro e w13 ⟨hb13, rfl, hr13⟩
  have K1 := Lib.hid ((K1.out.below (below_alloc _ _)).below hb13)
  have OO := Lib.hid hr13
  have HB := Lib.hid (below_next (bd_alloc0 HB.out _) hb13)
  clear hb13 hr13
  go_wp2_with fail
  clear K1
  refine (curve25_calls AnyB _ _ _ [5, 8] _ (by exact ints_row2 [5, 8] (alloc_last rfl) (by decide) rfl (by simp) (by simp)) (by simp)).mono ?_
  rintro e w14 ⟨hb14, A14, n14, c14, rfl, hr14⟩
  have OO := Lib.hid ((OO.out.below (below_alloc _ _)).below hb14)
  have K2 := Lib.hid hr14.all
  have HB := Lib.hid (below_next (bd_alloc0 HB.out _) hb14)
  clear hb14 hr14
  go_wp2_with fail
  refine (some_row _ _ _ [_] _ (one_row Kd.step (alloc_last rfl) (K2.out.below (below_alloc _ _)) (by simp))).mono ?_
  rintro e w15 ⟨hb15, rfl, hr15⟩
  have OO := Lib.hid ((OO.out.below (below_alloc _ _)).below hb15)
  have K2 := Lib.hid ((K2.out.below (below_alloc _ _)).below hb15)
  have BB := Lib.hid hr15
  have HB := Lib.hid (below_next (bd_alloc0 HB.out _) hb15)
  clear hb15 hr15
  go_wp2_with fail
  clear K2
  refine (found_calls AnyB _ _ _ [pairsOf [2, 3]] _ _ _ [pairsOf [5, 8]] (2) (8) (10) _ _ _ [2] _ _ _ [2] _ (by exact ((OO.out.below (below_alloc _ _)).below (below_alloc _ _))) (by exact ((BB.out.below (below_alloc _ _)).below (below_alloc _ _))) (by exact ints_row2 [2] (alloc_elder (alloc_last rfl)) (by decide) rfl (by simp) (by simp)) (by exact ints_row2 [2] (alloc_last (by simp)) (by decide) rfl (by simp) (by simp)) ex_d).mono ?_
  rintro e w16 ⟨hb16, rfl⟩
  have OO := Lib.hid (((OO.out.below (below_alloc _ _)).below (below_alloc _ _)).below hb16)
  have BB := Lib.hid (((BB.out.below (below_alloc _ _)).below (below_alloc _ _)).below hb16)
  have HB := Lib.hid (below_next (bd_alloc0 (bd_alloc0 HB.out _) _) hb16)
  clear hb16
  go_wp2_with fail
  clear OO BB
  refine (curve25_calls AnyB _ _ _ [5, 3] _ (by exact ints_row2 [5, 3] (alloc_last rfl) (by decide) rfl (by simp) (by simp)) (by simp)).mono ?_
  rintro e w17 ⟨hb17, A17, n17, c17, rfl, hr17⟩
  have K1 := Lib.hid hr17.all
  have HB := Lib.hid (below_next (bd_alloc0 HB.out _) hb17)
  clear hb17 hr17
  go_wp2_with fail
  refine (some_row _ _ _ [_] _ (one_row Kd.step (alloc_last rfl) (K1.out.below (below_alloc _ _)) (by simp))).mono ?_
  rintro e w18 ⟨hb18, rfl, hr18⟩
  have K1 := Lib.hid ((K1.out.below (below_alloc _ _)).below hb18)
  have OO := Lib.hid hr18
  have HB := Lib.hid (below_next (bd_alloc0 HB.out _) hb18)
  clear hb18 hr18
  go_wp2_with fail
  clear K1
  refine (curve25_calls AnyB _ _ _ [2, 8] _ (by exact ints_row2 [2, 8] (alloc_last rfl) (by decide) rfl (by simp) (by simp)) (by simp)).mono ?_
  rintro e w19 ⟨hb19, A19, n19, c19, rfl, hr19⟩
  have OO := Lib.hid ((OO.out.below (below_alloc _ _)).below hb19)
  have K2 := Lib.hid hr19.all
  have HB := Lib.hid (below_next (bd_alloc0 HB.out _) hb19)
  clear hb19 hr19
  go_wp2_with fail
  refine (some_row _ _ _ [_] _ (one_row Kd.step (alloc_last rfl) (K2.out.below (below_alloc _ _)) (by simp))).mono ?_
  rintro e w20 ⟨hb20, rfl, hr20⟩
  have OO := Lib.hid ((OO.out.below (below_alloc _ _)).below hb20)
  have K2 := Lib.hid ((K2.out.below (below_alloc _ _)).below hb20)
  have BB := Lib.hid hr20
  have HB := Lib.hid (below_next (bd_alloc0 HB.out _) hb20)
  clear hb20 hr20
  go_wp2_with fail
  clear K2
  refine (found_calls AnyB _ _ _ [pairsOf [5, 3]] _ _ _ [pairsOf [2, 8]] (2) (3) (10) _ _ _ [2] _ _ _ [2] _ (by exact ((OO.out.below (below_alloc _ _)).below (below_alloc _ _))) (by exact ((BB.out.below (below_alloc _ _)).below (below_alloc _ _))) (by exact ints_row2 [2] (alloc_elder (alloc_last rfl)) (by decide) rfl (by simp) (by simp)) (by exact ints_row2 [2] (alloc_last (by simp)) (by decide) rfl (by simp) (by simp)) ex_e).mono ?_
  rintro e w21 ⟨hb21, rfl⟩
  have OO := Lib.hid (((OO.out.below (below_alloc _ _)).below (below_alloc _ _)).below hb21)
  have BB := Lib.hid (((BB.out.below (below_alloc _ _)).below (below_alloc _ _)).below hb21)
  have HB := Lib.hid (below_next (bd_alloc0 (bd_alloc0 HB.out _) _) hb21)
  clear hb21
  go_wp2_with fail
  clear OO BB
  refine (curve25_calls AnyB _ _ _ [5, -4] _ (by exact ints_row2 [5, -4] (alloc_last rfl) (by decide) rfl (by simp) (by simp)) (by simp)).mono ?_
  rintro e w22 ⟨hb22, A22, n22, c22, rfl, hr22⟩
  have K1 := Lib.hid hr22.all
  have HB := Lib.hid (below_next (bd_alloc0 HB.out _) hb22)
  clear hb22 hr22
  go_wp2_with fail
  refine (some_row _ _ _ [_] _ (one_row Kd.step (alloc_last rfl) (K1.out.below (below_alloc _ _)) (by simp))).mono ?_
  rintro e w23 ⟨hb23, rfl, hr23⟩
  have K1 := Lib.hid ((K1.out.below (below_alloc _ _)).below hb23)
  have OO := Lib.hid hr23
  have HB := Lib.hid (below_next (bd_alloc0 HB.out _) hb23)
  clear hb23 hr23
  go_wp2_with fail
  clear K1
  refine (curve25_calls AnyB _ _ _ [5, 6] _ (by exact ints_row2 [5, 6] (alloc_last rfl) (by decide) rfl (by simp) (by simp)) (by simp)).mono ?_
  rintro e w24 ⟨hb24, A24, n24, c24, rfl, hr24⟩
  have OO := Lib.hid ((OO.out.below (below_alloc _ _)).below hb24)
  have K2 := Lib.hid hr24.all
  have HB := Lib.hid (below_next (bd_alloc0 HB.out _) hb24)
  clear hb24 hr24
  go_wp2_with fail
  refine (some_row _ _ _ [_] _ (one_row Kd.step (alloc_last rfl) (K2.out.below (below_alloc _ _)) (by simp))).mono ?_
  rintro e w25 ⟨hb25, rfl, hr25⟩
  have OO := Lib.hid ((OO.out.below (below_alloc _ _)).below hb25)
  have K2 := Lib.hid ((K2.out.below (below_alloc _ _)).below hb25)
  have BB := Lib.hid hr25
  have HB := Lib.hid (below_next (bd_alloc0 HB.out _) hb25)
  clear hb25 hr25
  go_wp2_with fail
  clear K2
  refine (found_calls AnyB _ _ _ [pairsOf [5, -4]] _ _ _ [pairsOf [5, 6]] (5) (0) (50) _ _ _ [5] _ _ _ [5] _ (by exact ((OO.out.below (below_alloc _ _)).below (below_alloc _ _))) (by exact ((BB.out.below (below_alloc _ _)).below (below_alloc _ _))) (by exact ints_row2 [5] (alloc_elder (alloc_last rfl)) (by decide) rfl (by simp) (by simp)) (by exact ints_row2 [5] (alloc_last (by simp)) (by decide) rfl (by simp) (by simp)) ex_f).mono ?_
  rintro e w26 ⟨hb26, rfl⟩
  have OO := Lib.hid (((OO.out.below (below_alloc _ _)).below (below_alloc _ _)).below hb26)
  have BB := Lib.hid (((BB.out.below (below_alloc _ _)).below (below_alloc _ _)).below hb26)
  have HB := Lib.hid (below_next (bd_alloc0 (bd_alloc0 HB.out _) _) hb26)
  clear hb26
  go_wp2
  go_ret
  exact ⟨HB.out, rfl⟩
#print axioms awake25_calls
end Go.Proofs.YtlaemhigmgmgjaaGreat
