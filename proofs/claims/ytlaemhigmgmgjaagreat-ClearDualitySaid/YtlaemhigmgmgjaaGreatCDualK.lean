/- ClearDuality: the walk. The law returns true, whatever the offers and bids. No condition. -/
import Derived.Test.YtlaemhigmgmgjaaGreatK13
import Derived.Test.YtlaemhigmgmgjaaGreatTurnedK
namespace Go.Proofs.YtlaemhigmgmgjaaGreat
set_option linter.unusedVariables false
set_option linter.unusedSimpArgs false
open Go.RowKit

theorem run_ok4 {O B : List Crv} : (runR O B).2 = 0 ↔ wrongM O B = 0 := by
  unfold runR
  by_cases h0 : wrongM O B = 0
  · rw [if_pos h0]; exact ⟨fun _ => h0, fun _ => rfl⟩
  · rw [if_neg h0]
theorem run_dual {O B : List Crv} (h : wrongM O B = 0) (hb : B.length ≤ 5) : ∃ (q p l : Int) (s t : List Int), runR O B = (⟨q, p, l, s, t⟩, 0) ∧ runR (B.map turnF) (O.map turnF) = (⟨q, -p, l, t, s⟩, 0) ∧ -1000000 ≤ p ∧ p ≤ 1000000 := by
  obtain ⟨h5, h6, hO, hB⟩ := wrongM_ok.1 h
  have hO' : Valid false (O.map turnF) := (valid_turn (up := true)).2 hO
  have hB' : Valid true (B.map turnF) := (valid_turn (up := false)).2 hB
  have h' : wrongM (B.map turnF) (O.map turnF) = 0 := wrongM_ok.2 ⟨by simpa using hb, by simp; omega, hB', hO'⟩
  have hok := run_ok h
  obtain ⟨e1, e2, e3, e4, e5⟩ := dual_law hO hB
  refine ⟨volP O B, priceP O B, welP O B, shareXI true O (volP O B), shareXI false B (volP O B), ?_, ?_, hok.p0, hok.p1⟩
  · unfold runR; rw [if_pos h]
  · unfold runR; rw [if_pos h', e1, e2, e3, e4, e5]
set_option maxRecDepth 100000 in
set_option maxHeartbeats 8000000 in
theorem cdual_calls (A : Option Addr) (n c : Nat) (O : List Crv) (A2 : Option Addr) (n2 c2 : Nat) (B : List Crv) (w : World) (h : Row Kd.curve AnyB w (.slice A n c) O) (h2 : Row Kd.curve AnyB w (.slice A2 n2 c2) B) :
    Calls Tryz.prog 5 #[.slice A n c, .slice A2 n2 c2] w fun e w' => Below w.heap.size w w' ∧ e = .returned (.bool true) := by
  obtain rfl := h.len
  obtain rfl := h2.len
  have hm := h.small
  have hm2 := h2.small
  have HR := Lib.hid h
  have HR2 := Lib.hid h2
  obtain ⟨lg, hlg⟩ : ∃ lg, lg = (longP O || longP B) := ⟨_, rfl⟩
  have HLG := Lib.hid hlg
  obtain ⟨my, hmy⟩ : ∃ my, my = ((runR O B).2 == 0) := ⟨_, rfl⟩
  have HMY := Lib.hid hmy
  clear h h2 hlg hmy
  go_enter Tryz.func5, Tryz.ntmps5
  go_wp2_with fail
  refine (long25_calls AnyB _ _ _ O _ _ _ B _ HR.out HR2.out).mono ?_
  rw [← HLG.out]
  rintro e w1 ⟨rfl, rfl⟩
  cases lg
  case true =>
    go_wp2_with fail
    refine (awake25_calls _).mono ?_
    rintro e w2 ⟨hb2, rfl⟩
    have HB2 := Lib.hid hb2
    clear hb2
    go_wp2
    go_ret
    exact ⟨HB2.out, rfl⟩
  case false =>
    by_cases hb5 : 5 < B.length
    · have hb6 : (5 : Int) < (B.length : Int) := by omega
      clear hb5
      go_wp2_with fail
      refine (awake25_calls _).mono ?_
      rintro e w2 ⟨hb2, rfl⟩
      have HB2 := Lib.hid hb2
      clear hb2
      go_wp2
      go_ret
      exact ⟨HB2.out, rfl⟩
    · have hb6 : (B.length : Int) ≤ 5 := by omega
      have HBL : Hid (B.length ≤ 5) := Lib.hid (by omega)
      clear hb5
      go_wp2_with fail
      refine (may_calls AnyB _ _ _ O _ _ _ B _ HR.out HR2.out).mono ?_
      rw [← HMY.out]
      rintro e w2 ⟨hb2, rfl⟩
      have HB2 := Lib.hid hb2
      clear hb2
      cases my
      case false =>
        go_wp2_with fail
        refine (awake25_calls _).mono ?_
        rintro e w3 ⟨hb3, rfl⟩
        have HB3 := Lib.hid (below_next HB2.out hb3)
        clear hb3
        go_wp2
        go_ret
        exact ⟨HB3.out, rfl⟩
      case true =>
        have h0 : wrongM O B = 0 := run_ok4.1 (eq_of_beq HMY.out.symm)
        obtain ⟨q, p, l, s, t, e1, e2, hp0, hp1⟩ := run_dual h0 HBL.out
        have HX := Lib.hid e1
        have HY := Lib.hid e2
        have HW := Lib.hid (wrongM_ok.1 h0)
        obtain ⟨p', hp'⟩ : ∃ p', p' = -p := ⟨_, rfl⟩
        rw [← hp'] at HY
        have hneg : IntKind.i64.wrap (-p') = p := by rw [hp', Int.neg_neg]; exact IntWalk.i64_in _ ⟨by omega, by omega⟩
        clear h0 e1 e2 hp'
        go_wp2_with fail
        refine (awake25_calls _).mono ?_
        rintro e w4 ⟨hb4, rfl⟩
        have HB4 := Lib.hid (below_next HB2.out hb4)
        clear hb4
        go_wp2_with fail
        refine (run_calls AnyB _ _ _ O _ _ _ B _ (HR.out.below HB4.out) (HR2.out.below HB4.out)).mono ?_
        rw [HX.out]
        rintro e w5 ⟨hb5, v5, rfl, A5, A6, c5, c6, rfl, hs5, ht5⟩
        obtain ⟨l5, hl5⟩ : ∃ l, l = s.length := ⟨_, rfl⟩
        obtain ⟨l6, hl6⟩ : ∃ l, l = t.length := ⟨_, rfl⟩
        simp only at hs5 ht5
        simp only
        rw [← hl5, ← hl6]
        rw [← hl5] at hs5
        rw [← hl6] at ht5
        obtain ⟨WX, hWX, gX, hBX, hsX⟩ := one_box w5 (.cells #[.int .i64 q, .int .i64 p, .int .i64 l, .slice A5 l5 c5, .slice A6 l6 c6] 30)
        obtain ⟨X, hX⟩ : ∃ X, X = w5.heap.size := ⟨_, rfl⟩
        rw [← hX] at gX hsX
        have HBX := Lib.hid (below_next HB4.out (below_next hb5 hBX))
        have GX := Lib.hid gX
        have HS5 := Lib.hid (hs5.all.below hBX)
        have HT5 := Lib.hid (ht5.all.below hBX)
        have HXS : Hid (X < WX.heap.size ∧ w1.heap.size ≤ X) := Lib.hid (by have h1 := hb5.size; have h2 := HB4.out.size; omega)
        have HWX := Lib.hid hWX
        have HL5 := Lib.hid hl5
        have HL6 := Lib.hid hl6
        clear hl5 hl6
        clear hb5 hs5 ht5 hWX gX hBX hsX
        go_upto_region 4 with fail
        rw [HWX.out, ← hX]
        clear HWX hX
        go_wp2_with fail
        refine (turned_calls _ _ _ B _ (HR2.out.below HBX.out) (by have := HBL.out; omega) (fun cv hc => (curveE_in (HW.out.2.2.2.2 cv hc)).2)).mono ?_
        rintro e w6 ⟨hb6', A7, c7, rfl, hr6⟩
        have HB6 := Lib.hid hb6'
        have HR6 := Lib.hid hr6
        clear hb6' hr6
        go_wp2_with fail
        refine (turned_calls _ _ _ O _ (HR.out.below (below_next HBX.out HB6.out)) (by have := HW.out.1; omega) (fun cv hc => (curveE_in (HW.out.2.2.1.2 cv hc)).2)).mono ?_
        rintro e w7 ⟨hb7, A8, c8, rfl, hr7⟩
        have HB7 := Lib.hid (below_next HB6.out hb7)
        have HR67 := Lib.hid (HR6.out.below hb7)
        have HR7 := Lib.hid hr7
        clear hb7 hr7
        go_wp2_with fail
        refine (run_calls AnyB _ _ _ (B.map turnF) _ _ _ (O.map turnF) _ HR67.out HR7.out).mono ?_
        rw [HY.out]
        rintro e w8 ⟨hb8, v8, rfl, A9, A10, c9, c10, rfl, ht8, hs8⟩
        simp only at hs8 ht8
        simp only
        rw [← HL5.out, ← HL6.out]
        rw [← HL5.out] at hs8
        rw [← HL6.out] at ht8
        obtain ⟨WY, hWY, gY, hBY, hsY⟩ := one_box w8 (.cells #[.int .i64 q, .int .i64 p', .int .i64 l, .slice A9 l6 c9, .slice A10 l5 c10] 30)
        obtain ⟨Y, hY⟩ : ∃ Y, Y = w8.heap.size := ⟨_, rfl⟩
        rw [← hY] at gY hsY
        have hbb := below_next HB7.out (below_next hb8 hBY)
        have HBY := Lib.hid (below_next HBX.out hbb)
        have gX2 := heap_below hbb GX.out
        have GX2 := Lib.hid gX2
        have GY := Lib.hid gY
        have hb78 := below_next HB7.out hb8
        have HS8 : Hid (Row Kd.i64 (fun k _ => k < Y) WY (.slice A10 l5 c10) s) := Lib.hid ((hs8.live.mono (fun k _ h => by rw [hY]; exact h.2.1)).below hBY)
        have HT8 : Hid (Row Kd.i64 (fun k _ => k < Y) WY (.slice A9 l6 c9) t) := Lib.hid ((ht8.live.mono (fun k _ h => by rw [hY]; exact h.2.1)).below hBY)
        have HS5' : Hid (Row Kd.i64 (fun k _ => k < Y) WY (.slice A5 l5 c5) s) := Lib.hid (((HS5.out.below hb78).live.mono (fun k _ h => by rw [hY]; exact h.2.1)).below hBY)
        have HT5' : Hid (Row Kd.i64 (fun k _ => k < Y) WY (.slice A6 l6 c6) t) := Lib.hid (((HT5.out.below hb78).live.mono (fun k _ h => by rw [hY]; exact h.2.1)).below hBY)
        clear hb78
        have hXY : X < Y := by have h1 := HXS.out.1; have h2 := HB7.out.size; have h3 := hb8.size; omega
        have HXY : Hid (X < Y ∧ w1.heap.size ≤ X) := Lib.hid ⟨hXY, HXS.out.2⟩
        have ne1 : ¬ X = Y := by omega
        have ne2 : ¬ Y = X := by omega
        have x0 : WY.cell? ⟨X, 0, none⟩ = some (.int .i64 q) := hcell gX2 0 rfl
        have x1 : WY.cell? ⟨X, 1, none⟩ = some (.int .i64 p) := hcell gX2 1 rfl
        have x2 : WY.cell? ⟨X, 2, none⟩ = some (.int .i64 l) := hcell gX2 2 rfl
        have x3 : WY.cell? ⟨X, 3, none⟩ = some (.slice A5 l5 c5) := hcell gX2 3 rfl
        have x4 : WY.cell? ⟨X, 4, none⟩ = some (.slice A6 l6 c6) := hcell gX2 4 rfl
        have y0 : WY.cell? ⟨Y, 0, none⟩ = some (.int .i64 q) := hcell gY 0 rfl
        have y1 : WY.cell? ⟨Y, 1, none⟩ = some (.int .i64 p') := hcell gY 1 rfl
        have y2 : WY.cell? ⟨Y, 2, none⟩ = some (.int .i64 l) := hcell gY 2 rfl
        have y3 : WY.cell? ⟨Y, 3, none⟩ = some (.slice A9 l6 c9) := hcell gY 3 rfl
        have y4 : WY.cell? ⟨Y, 4, none⟩ = some (.slice A10 l5 c10) := hcell gY 4 rfl
        have f1 := hfree gY 1
        have f3 := hfree gY 3
        have f4 := hfree gY 4
        have HWY := Lib.hid hWY
        clear hb8 hs8 ht8 hWY gY hBY hsY hbb gX2 hXY
        go_upto_region 5 with fail
        rw [HWY.out, ← hY]
        clear HWY hY
        go_wp2_with fail
        have hst : ∀ {v : Value} {L : List Int}, Row Kd.i64 (fun k _ => k < Y) WY v L → Row Kd.i64 (fun k _ => k < Y) (((WY.setCell ⟨Y, 1, none⟩ (.int .i64 p)).setCell ⟨Y, 3, none⟩ (.slice A10 l5 c10)).setCell ⟨Y, 4, none⟩ (.slice A9 l6 c9)) v L := fun h =>
          ((h.set (a := ⟨Y, 1, none⟩) (fun k _ hk => by show k ≠ Y; omega)).set (a := ⟨Y, 3, none⟩) (fun k _ hk => by show k ≠ Y; omega)).set (a := ⟨Y, 4, none⟩) (fun k _ hk => by show k ≠ Y; omega)
        refine (same25_calls _ q p l q p l _ _ _ _ _ _ _ _ _ _ _ _ s t s t _ (hst HS5'.out) (hst HT5'.out) (hst HS8.out) (hst HT8.out)).mono ?_
        rw [decide_eq_true (show q = q ∧ p = p ∧ l = l ∧ s = s ∧ t = t from ⟨rfl, rfl, rfl, rfl, rfl⟩)]
        rintro e w9 ⟨hb9, rfl⟩
        have HB9 := Lib.hid (below_next (((HBY.out.setCell (p := ⟨Y, 1, none⟩) (by have := HXY.out; show _ ≤ Y; omega) _).setCell (p := ⟨Y, 3, none⟩) (by have := HXY.out; show _ ≤ Y; omega) _).setCell (p := ⟨Y, 4, none⟩) (by have := HXY.out; show _ ≤ Y; omega) _) hb9)
        clear hb9 hst
        go_wp2
        go_ret
        exact ⟨HB9.out, rfl⟩
#print axioms cdual_calls
end Go.Proofs.YtlaemhigmgmgjaaGreat
