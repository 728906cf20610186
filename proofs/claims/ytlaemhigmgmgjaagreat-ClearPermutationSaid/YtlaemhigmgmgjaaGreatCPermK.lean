/- ClearPermutation: the walk. The law returns true, whatever the offers and bids. No condition. Printed by wip/tools/cperm.py. -/
import Derived.Test.YtlaemhigmgmgjaaGreatK13
import Derived.Test.YtlaemhigmgmgjaaGreatK8
import Derived.Test.YtlaemhigmgmgjaaGreatK11
namespace Go.Proofs.YtlaemhigmgmgjaaGreat
set_option linter.unusedVariables false
set_option linter.unusedSimpArgs false
open Go.RowKit

theorem info_curve25 : (Tryz.prog.info? 23).map (fun i => (i.zero, i.size, i.bytes)) = some (some (.slice none 0 0), 1, 24) := by kernel_rfl
theorem run_perm {O B : List Crv} (h : wrongM O B = 0) (r1 r2 : Nat) : ∃ (vol pri wel : Int) (s1 s2 s3 s4 : List Int), runR O B = (⟨vol, pri, wel, s1, s2⟩, 0) ∧ runR (rotL O r1) (rotL B r2) = (⟨vol, pri, wel, s3, s4⟩, 0) := by
  obtain ⟨h5, h6, hO, hB⟩ := wrongM_ok.1 h
  have hO' := (valid_rot r1).1 hO
  have hB' := (valid_rot r2).1 hB
  have h' : wrongM (rotL O r1) (rotL B r2) = 0 := wrongM_ok.2 ⟨by rw [rotL_len]; exact h5, by rw [rotL_len]; exact h6, hO', hB'⟩
  obtain ⟨e1, e2, e3⟩ := perm_law hO hO' hB hB' (rotL_perm O r1) (rotL_perm B r2)
  refine ⟨volP O B, priceP O B, welP O B, shareXI true O (volP O B), shareXI false B (volP O B), shareXI true (rotL O r1) (volP O B), shareXI false (rotL B r2) (volP O B), ?_, ?_⟩
  · unfold runR; rw [if_pos h]
  · unfold runR; rw [if_pos h', e1, e2, e3]
theorem run_ok2 {O B : List Crv} (h : (runR O B).2 = 0) : wrongM O B = 0 := by
  unfold runR at h
  by_cases h0 : wrongM O B = 0
  · exact h0
  · rw [if_neg h0] at h; exact absurd h h0
set_option maxRecDepth 100000 in
set_option maxHeartbeats 8000000 in
theorem cperm_calls (A : Option Addr) (n c : Nat) (O : List Crv) (A2 : Option Addr) (n2 c2 : Nat) (B : List Crv) (r1 : Nat) (hr1 : r1 < 256) (r2 : Nat) (hr2 : r2 < 256) (w : World) (h : Row Kd.curve AnyB w (.slice A n c) O) (h2 : Row Kd.curve AnyB w (.slice A2 n2 c2) B) :
    Calls Tryz.prog 4 #[.slice A n c, .slice A2 n2 c2, .int .u8 r1, .int .u8 r2] w fun e w' => Below w.heap.size w w' ∧ e = .returned (.bool true) := by
  obtain rfl := h.len
  obtain rfl := h2.len
  have hm := h.small
  have hm2 := h2.small
  have HR := Lib.hid h
  have HR2 := Lib.hid h2
  obtain ⟨lg, hlg⟩ : ∃ lg, lg = (longP O || longP B) := ⟨_, rfl⟩
  have HLG := Lib.hid hlg
  obtain ⟨my, hmy⟩ : ∃ my, my = ((runR O B).2 == 0) := ⟨_, rfl⟩
  have HMY := Lib.hid hmy
  clear h h2 hlg hmy
  go_enter Tryz.func4, Tryz.ntmps4
  go_wp2_with fail
  refine (long25_calls AnyB _ _ _ O _ _ _ B _ HR.out HR2.out).mono ?_
  rw [← HLG.out]
  rintro e w1 ⟨rfl, rfl⟩
  cases lg
  case true =>
    go_wp2_with fail
    refine (awake25_calls _).mono ?_
    rintro e w2 ⟨hb2, rfl⟩
    have HB2 := Lib.hid hb2
    clear hb2
    go_wp2
    go_ret
    exact ⟨HB2.out, rfl⟩
  case false =>
    go_wp2_with fail
    refine (may_calls AnyB _ _ _ O _ _ _ B _ HR.out HR2.out).mono ?_
    rw [← HMY.out]
    rintro e w2 ⟨hb2, rfl⟩
    have HB2 := Lib.hid hb2
    clear hb2
    cases my
    case false =>
      go_wp2_with fail
      refine (awake25_calls _).mono ?_
      rintro e w3 ⟨hb3, rfl⟩
      have HB3 := Lib.hid (below_next HB2.out hb3)
      clear hb3
      go_wp2
      go_ret
      exact ⟨HB3.out, rfl⟩
    case true =>
      have h0 : wrongM O B = 0 := run_ok2 (eq_of_beq HMY.out.symm)
      obtain ⟨vol, pri, wel, s1, s2, s3, s4, e1, e2⟩ := run_perm h0 r1 r2
      have HRUN := Lib.hid (And.intro e1 e2)
      have HLO : Hid (O.length ≤ 40) := Lib.hid (by have := (wrongM_ok.1 h0).1; omega)
      have HLB : Hid (B.length ≤ 40) := Lib.hid (by have := (wrongM_ok.1 h0).2.1; omega)
      clear e1 e2 h0
      go_wp2_with fail
      refine (awake25_calls _).mono ?_
      rintro e w4 ⟨hb4, rfl⟩
      have HB4 := Lib.hid (below_next HB2.out hb4)
      have HR1 := Lib.hid (HR.out.below HB4.out).live
      have HR2 := Lib.hid (HR2.out.below HB4.out)
      clear hb4
      go_wp2_with fail
      go_loopw [9, 11] (fun out i wr => ∃ k : Nat, k ≤ O.length ∧ i = .int .i64 k ∧ Hid (Below w4.heap.size w4 wr) ∧ Hid (Own Kd.curve 23 w4.heap.size (fun k _ => k < w4.heap.size) wr out ((rotL O r1).take k)))
        (fun _ i _ => O.length - (intOf i).toNat)
      case atStart => exact ⟨0, Nat.zero_le _, rfl, Below.refl _ _, Own.nil _ _ _ _ _⟩
      case round =>
        obtain ⟨k, hk, rfl, HBW, HOWN⟩ := hrel
        obtain ⟨Ao, co, hAo⟩ := HOWN.out.form
        have hRl := rotL_len O r1
        by_cases hlt : k < O.length
        · have hlen : ((rotL O r1).take k).length = k := by rw [List.length_take]; omega
          rw [hlen] at hAo
          subst hAo
          obtain ⟨j, hj⟩ : ∃ j, j = (k + r1) % O.length := ⟨_, rfl⟩
          have hjl : j < O.length := by rw [hj]; exact Nat.mod_lt _ (by omega)
          obtain ⟨b, off, A', c', rfl, y0, hv⟩ := curve_cell (HR1.out.below HBW.out) hjl
          have hts := List.take_succ_eq_append_getElem (l := rotL O r1) (i := k) (by rw [hRl]; exact hlt)
          have hg : (rotL O r1)[k]'(by rw [hRl]; exact hlt) = O[j] := by rw [rotL_get hlt]; simp only [hj]
          rw [hg] at hts
          obtain ⟨cv, hcv⟩ : ∃ cv, cv = O[j] := ⟨_, rfl⟩
          rw [← hcv] at hts hv y0
          have HTS := Lib.hid hts
          have hx : ((k : Int) + (r1 : Int)) % (O.length : Int) = (j : Int) := by rw [hj]; push_cast; rfl
          have hk0 : (0 : Int) ≤ (k : Int) := by omega
          have hk1 : (k : Int) < (O.length : Int) := by omega
          have hj0 : (0 : Int) ≤ (j : Int) := by omega
          have hj1 : (j : Int) < (O.length : Int) := by omega
          have hl0 : ((O.length : Int) == 0) = false := by rw [beq_eq_false_iff_ne]; omega
          have hwr : IntKind.i64.wrap ((k : Int) + (r1 : Int)) = (k : Int) + (r1 : Int) := IntWalk.i64_in _ ⟨by omega, by omega⟩
          have hwj : IntKind.i64.wrap (j : Int) = (j : Int) := IntWalk.i64_in _ ⟨by omega, by omega⟩
          have HV := Lib.hid hv
          clear hts hg hcv hlen hj hv hRl
          go_wp2_with (at_builtin; refine wp_append Kd.curve rfl _ _ 22 rfl 23 _ 24 Tryz.underlying22 info_curve25 rfl (by decide) w4.heap.size (fun k _ => k < w4.heap.size) _ ((rotL O r1).take k) rfl ?hown _ [cv] rfl ?hel ?hby ?hba ?_)
          case hown => exact HOWN.out.below (below_alloc _ _)
          case hel => exact Elems.one (cs := #[.slice A' (List.length cv) c']) ⟨_, rfl, (HV.out.below (below_alloc _ _)).mono (fun _ _ h => h.2.1)⟩ (alloc_last rfl)
          case hby => have := HLO.out; simp; omega
          case hba => have := HBW.out.size; simp; omega
          intro v3 w3 hown3 hg3 hat3
          have HBR : Hid (Below w4.heap.size w4 w3) := Lib.hid (below_grown (bd_alloc0 HBW.out _) hg3 (fun j hj => (HOWN.out.base_le j hj).1))
          have HO3 : Hid (Own Kd.curve 23 w4.heap.size (fun k _ => k < w4.heap.size) w3 v3 ((rotL O r1).take (k + 1))) := Lib.hid (by
            rw [HTS.out]
            exact hown3.mono (fun _ _ h => h.1) (fun i _ hi e => by have := (hown3.base_le i e).1; omega))
          clear hown3 hg3 hat3
          go_wp2
          go_roundw
          case rel => exact ⟨k + 1, hlt, by go_num, HBR.out, HO3.out⟩
          case measure => simp [intOf]; omega
        · have hkk : (rotL O r1).take k = rotL O r1 := List.take_of_length_le (by rw [hRl]; omega)
          rw [hkk] at hAo HOWN
          rw [hRl] at hAo
          subst hAo
          obtain rfl : k = O.length := by omega
          have HRM1 := Lib.hid (HOWN.out.row.all)
          have HBE1 := Lib.hid HBW.out
          have HRN1 : Hid (Row Kd.curve AnyB wr (.slice Ao O.length co) (rotL O r1)) := Lib.hid (by have h1 := HRM1.out; exact h1)
          obtain ⟨A1, hA1⟩ : ∃ A, A = Ao := ⟨_, rfl⟩
          obtain ⟨cc1, hcc1⟩ : ∃ c, c = co := ⟨_, rfl⟩
          rw [← hA1, ← hcc1] at HRN1
          rw [← hA1, ← hcc1]
          clear HRM1 HOWN HBW hkk hRl hA1 hcc1 hk hlt
          obtain ⟨wm, hwm⟩ : ∃ wm : World, wm = wr := ⟨_, rfl⟩
          rw [← hwm] at HBE1 HRN1 ⊢
          have HRB := Lib.hid (HR2.out.below HBE1.out).live
          clear hwm
          go_wp2_with fail
          go_loopw [10, 12] (fun out i wr => ∃ k : Nat, k ≤ B.length ∧ i = .int .i64 k ∧ Hid (Below wm.heap.size wm wr) ∧ Hid (Own Kd.curve 23 wm.heap.size (fun k _ => k < wm.heap.size) wr out ((rotL B r2).take k)))
            (fun _ i _ => B.length - (intOf i).toNat)
          case atStart => exact ⟨0, Nat.zero_le _, rfl, Below.refl _ _, Own.nil _ _ _ _ _⟩
          case round =>
            obtain ⟨k, hk, rfl, HBW, HOWN⟩ := hrel
            obtain ⟨Ao, co, hAo⟩ := HOWN.out.form
            have hRl := rotL_len B r2
            by_cases hlt : k < B.length
            · have hlen : ((rotL B r2).take k).length = k := by rw [List.length_take]; omega
              rw [hlen] at hAo
              subst hAo
              obtain ⟨j, hj⟩ : ∃ j, j = (k + r2) % B.length := ⟨_, rfl⟩
              have hjl : j < B.length := by rw [hj]; exact Nat.mod_lt _ (by omega)
              obtain ⟨b, off, A', c', rfl, y0, hv⟩ := curve_cell (HRB.out.below HBW.out) hjl
              have hts := List.take_succ_eq_append_getElem (l := rotL B r2) (i := k) (by rw [hRl]; exact hlt)
              have hg : (rotL B r2)[k]'(by rw [hRl]; exact hlt) = B[j] := by rw [rotL_get hlt]; simp only [hj]
              rw [hg] at hts
              obtain ⟨cv, hcv⟩ : ∃ cv, cv = B[j] := ⟨_, rfl⟩
              rw [← hcv] at hts hv y0
              have HTS := Lib.hid hts
              have hx : ((k : Int) + (r2 : Int)) % (B.length : Int) = (j : Int) := by rw [hj]; push_cast; rfl
              have hk0 : (0 : Int) ≤ (k : Int) := by omega
              have hk1 : (k : Int) < (B.length : Int) := by omega
              have hj0 : (0 : Int) ≤ (j : Int) := by omega
              have hj1 : (j : Int) < (B.length : Int) := by omega
              have hl0 : ((B.length : Int) == 0) = false := by rw [beq_eq_false_iff_ne]; omega
              have hwr : IntKind.i64.wrap ((k : Int) + (r2 : Int)) = (k : Int) + (r2 : Int) := IntWalk.i64_in _ ⟨by omega, by omega⟩
              have hwj : IntKind.i64.wrap (j : Int) = (j : Int) := IntWalk.i64_in _ ⟨by omega, by omega⟩
              have HV := Lib.hid hv
              clear hts hg hcv hlen hj hv hRl
              go_wp2_with (at_builtin; refine wp_append Kd.curve rfl _ _ 22 rfl 23 _ 24 Tryz.underlying22 info_curve25 rfl (by decide) wm.heap.size (fun k _ => k < wm.heap.size) _ ((rotL B r2).take k) rfl ?hown _ [cv] rfl ?hel ?hby ?hba ?_)
              case hown => exact HOWN.out.below (below_alloc _ _)
              case hel => exact Elems.one (cs := #[.slice A' (List.length cv) c']) ⟨_, rfl, (HV.out.below (below_alloc _ _)).mono (fun _ _ h => h.2.1)⟩ (alloc_last rfl)
              case hby => have := HLB.out; simp; omega
              case hba => have := HBW.out.size; simp; omega
              intro v3 w3 hown3 hg3 hat3
              have HBR : Hid (Below wm.heap.size wm w3) := Lib.hid (below_grown (bd_alloc0 HBW.out _) hg3 (fun j hj => (HOWN.out.base_le j hj).1))
              have HO3 : Hid (Own Kd.curve 23 wm.heap.size (fun k _ => k < wm.heap.size) w3 v3 ((rotL B r2).take (k + 1))) := Lib.hid (by
                rw [HTS.out]
                exact hown3.mono (fun _ _ h => h.1) (fun i _ hi e => by have := (hown3.base_le i e).1; omega))
              clear hown3 hg3 hat3
              go_wp2
              go_roundw
              case rel => exact ⟨k + 1, hlt, by go_num, HBR.out, HO3.out⟩
              case measure => simp [intOf]; omega
            · have hkk : (rotL B r2).take k = rotL B r2 := List.take_of_length_le (by rw [hRl]; omega)
              rw [hkk] at hAo HOWN
              rw [hRl] at hAo
              subst hAo
              obtain rfl : k = B.length := by omega
              have HRM2 := Lib.hid (HOWN.out.row.all)
              have HBE2 := Lib.hid HBW.out
              have HRN2 : Hid (Row Kd.curve AnyB wr (.slice Ao B.length co) (rotL B r2)) := Lib.hid (by have h1 := HRM2.out; exact h1)
              obtain ⟨A2, hA2⟩ : ∃ A, A = Ao := ⟨_, rfl⟩
              obtain ⟨cc2, hcc2⟩ : ∃ c, c = co := ⟨_, rfl⟩
              rw [← hA2, ← hcc2] at HRN2
              rw [← hA2, ← hcc2]
              clear HRM2 HOWN HBW hkk hRl hA2 hcc2 hk hlt
              have HRO := Lib.hid (HR1.out.below (below_next HBE1.out HBE2.out))
              have HRB2 := Lib.hid (HRB.out.below HBE2.out)
              have HRN1' := Lib.hid (HRN1.out.below HBE2.out)
              have HBF : Hid (Below w1.heap.size w1 wr) := Lib.hid (below_next (below_next HB4.out HBE1.out) HBE2.out)
              have hRO := HRUN.out.1
              have hRQ := HRUN.out.2
              have HRU1 := Lib.hid hRO
              have HRU2 := Lib.hid hRQ
              clear hRO hRQ
              go_wp2_with fail
              refine (run_calls _ _ _ _ O _ _ _ B _ (HRO.out.mono fun _ _ _ => trivial : Row Kd.curve AnyB _ _ _) (HRB2.out.mono fun _ _ _ => trivial)).mono ?_
              rw [HRU1.out]
              rintro e w5 ⟨hb5, v5, rfl, A5, A6, c5, c6, rfl, -, -⟩
              obtain ⟨l5, hl5⟩ : ∃ l, l = s1.length := ⟨_, rfl⟩
              obtain ⟨l6, hl6⟩ : ∃ l, l = s2.length := ⟨_, rfl⟩
              rw [← hl5, ← hl6]
              obtain ⟨WX, hWX, gX, hBX, hsX⟩ := one_box w5 (.cells #[.int .i64 vol, .int .i64 pri, .int .i64 wel, .slice A5 l5 c5, .slice A6 l6 c6] 30)
              obtain ⟨X, hX⟩ : ∃ X, X = w5.heap.size := ⟨_, rfl⟩
              rw [← hX] at gX
              have HB5 := Lib.hid (below_next hb5 hBX)
              have GX := Lib.hid gX
              have HWX := Lib.hid hWX
              clear hb5 hl5 hl6 hWX gX hBX hsX
              go_upto_region 13 with fail
              rw [HWX.out, ← hX]
              clear HWX hX
              go_wp2_with fail
              refine (run_calls _ _ _ _ (rotL O r1) _ _ _ (rotL B r2) _ (HRN1'.out.below HB5.out) (HRN2.out.below HB5.out)).mono ?_
              rw [HRU2.out]
              rintro e w6 ⟨hb6, v6, rfl, A7, A8, c7, c8, rfl, -, -⟩
              obtain ⟨l7, hl7⟩ : ∃ l, l = s3.length := ⟨_, rfl⟩
              obtain ⟨l8, hl8⟩ : ∃ l, l = s4.length := ⟨_, rfl⟩
              rw [← hl7, ← hl8]
              obtain ⟨WY, hWY, gY, hBY, hsY⟩ := one_box w6 (.cells #[.int .i64 vol, .int .i64 pri, .int .i64 wel, .slice A7 l7 c7, .slice A8 l8 c8] 30)
              obtain ⟨Y, hY⟩ : ∃ Y, Y = w6.heap.size := ⟨_, rfl⟩
              rw [← hY] at gY
              have hbb := below_next hb6 hBY
              have gX2 := heap_below hbb GX.out
              have x0 : WY.cell? ⟨X, 0, none⟩ = some (.int .i64 vol) := hcell gX2 0 rfl
              have x1 : WY.cell? ⟨X, 1, none⟩ = some (.int .i64 pri) := hcell gX2 1 rfl
              have x2 : WY.cell? ⟨X, 2, none⟩ = some (.int .i64 wel) := hcell gX2 2 rfl
              have y0 : WY.cell? ⟨Y, 0, none⟩ = some (.int .i64 vol) := hcell gY 0 rfl
              have y1 : WY.cell? ⟨Y, 1, none⟩ = some (.int .i64 pri) := hcell gY 1 rfl
              have y2 : WY.cell? ⟨Y, 2, none⟩ = some (.int .i64 wel) := hcell gY 2 rfl
              have HBZ := Lib.hid (below_next (below_next HBF.out HB5.out) hbb)
              have HWY := Lib.hid hWY
              clear hb6 hl7 hl8 hWY gY hBY hsY hbb gX2
              go_upto_region 14 with fail
              rw [HWY.out, ← hY]
              clear HWY hY
              go_wp2
              go_ret
              exact ⟨HBZ.out, rfl⟩
#print axioms cperm_calls
end Go.Proofs.YtlaemhigmgmgjaaGreat
