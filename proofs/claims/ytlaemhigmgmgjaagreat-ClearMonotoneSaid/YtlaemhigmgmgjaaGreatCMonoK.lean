/- ClearMonotone: the walk. The law returns true, whatever the offers, the bids and the curve. No condition. Printed by wip/tools/cmono.py. -/
import Derived.Test.YtlaemhigmgmgjaaGreatK13
import Derived.Test.YtlaemhigmgmgjaaGreatK11
namespace Go.Proofs.YtlaemhigmgmgjaaGreat
set_option linter.unusedVariables false
set_option linter.unusedSimpArgs false
open Go.RowKit

theorem info_curve26 : (Tryz.prog.info? 23).map (fun i => (i.zero, i.size, i.bytes)) = some (some (.slice none 0 0), 1, 24) := by kernel_rfl
theorem Own.empty2 {α : Type} (K : Kd α) {e base : Nat} {w : World} {b : Nat} (h : w.heap[b]? = some (.cells #[] e (0, 0))) (hb : base ≤ b) : Own K e base (fun _ _ => False) w (.slice (some ⟨b, 0, none⟩) 0 0) [] :=
  ⟨[], rfl, fun j h => absurd h (by simp), ⟨by simp, .inr ⟨b, 0, #[], rfl, hb, h, Nat.le_refl _, by simp [maxLen], by simp, by simp⟩⟩, fun _ _ h => h.elim, by simp⟩
theorem run_ok3 {O B : List Crv} : (runR O B).2 = 0 ↔ wrongM O B = 0 := by
  unfold runR
  by_cases h0 : wrongM O B = 0
  · rw [if_pos h0]; exact ⟨fun _ => h0, fun _ => rfl⟩
  · rw [if_neg h0]
theorem valid_snoc2 {up : Bool} {L : List Crv} {m : Crv} (h : Valid up L) (hl : L.length < 16) : Valid up (L ++ [m]) ↔ curveE (afterOf up) m = 0 := by
  constructor
  · intro h2; exact h2.2 m (by simp)
  · intro h2
    refine ⟨by simp; omega, fun c hc => ?_⟩
    rcases List.mem_append.1 hc with hc | hc
    · exact h.2 c hc
    · rw [List.mem_singleton.1 hc]; exact h2
theorem mono_b {O B : List Crv} {m : Crv} (h : wrongM O B = 0) : ((runR O (B ++ [m])).2 = 0 ↔ B.length < 6 ∧ curveE (afterOf false) m = 0) ∧ ((runR O (B ++ [m])).2 = 0 → (runR O B).1.price ≤ (runR O (B ++ [m])).1.price ∧ (runR O B).1.wel ≤ (runR O (B ++ [m])).1.wel) := by
  obtain ⟨h5, h6, hO, hB⟩ := wrongM_ok.1 h
  have hw : wrongM O (B ++ [m]) = 0 ↔ B.length < 6 ∧ curveE (afterOf false) m = 0 := by
    rw [wrongM_ok]
    constructor
    · rintro ⟨_, a, _, b⟩; exact ⟨by simp at a; omega, (valid_snoc2 hB (by omega)).1 b⟩
    · rintro ⟨a, b⟩; exact ⟨h5, by simp; omega, hO, (valid_snoc2 hB (by omega)).2 b⟩
  refine ⟨by rw [run_ok3]; exact hw, fun h2 => ?_⟩
  have h3 := run_ok3.1 h2
  have hv := (wrongM_ok.1 h3).2.2.2
  have hm := mono_bid hO hv hB
  unfold runR
  rw [if_pos h, if_pos h3]
  exact hm
theorem mono_o {O B : List Crv} {m : Crv} (h : wrongM O B = 0) : ((runR (O ++ [m]) B).2 = 0 ↔ O.length < 5 ∧ curveE (afterOf true) m = 0) ∧ ((runR (O ++ [m]) B).2 = 0 → (runR (O ++ [m]) B).1.price ≤ (runR O B).1.price ∧ (runR O B).1.wel ≤ (runR (O ++ [m]) B).1.wel) := by
  obtain ⟨h5, h6, hO, hB⟩ := wrongM_ok.1 h
  have hw : wrongM (O ++ [m]) B = 0 ↔ O.length < 5 ∧ curveE (afterOf true) m = 0 := by
    rw [wrongM_ok]
    constructor
    · rintro ⟨a, _, b, _⟩; exact ⟨by simp at a; omega, (valid_snoc2 hO (by omega)).1 b⟩
    · rintro ⟨a, b⟩; exact ⟨by simp; omega, h6, (valid_snoc2 hO (by omega)).2 b, hB⟩
  refine ⟨by rw [run_ok3]; exact hw, fun h2 => ?_⟩
  have h3 := run_ok3.1 h2
  have hv := (wrongM_ok.1 h3).2.2.1
  have hm := mono_offer hv hO hB
  unfold runR
  rw [if_pos h, if_pos h3]
  exact hm
set_option maxRecDepth 100000 in
set_option maxHeartbeats 8000000 in
theorem cmono_calls (A : Option Addr) (n c : Nat) (O : List Crv) (A2 : Option Addr) (n2 c2 : Nat) (B : List Crv) (A3 : Option Addr) (n3 c3 : Nat) (m : Crv) (w : World) (h : Row Kd.curve AnyB w (.slice A n c) O) (h2 : Row Kd.curve AnyB w (.slice A2 n2 c2) B) (h3 : Row Kd.step AnyB w (.slice A3 n3 c3) m) :
    Calls Tryz.prog 3 #[.slice A n c, .slice A2 n2 c2, .slice A3 n3 c3] w fun e w' => Below w.heap.size w w' ∧ e = .returned (.bool true) := by
  obtain rfl := h.len
  obtain rfl := h2.len
  obtain rfl := h3.len
  have hm := h.small
  have hm2 := h2.small
  have HR := Lib.hid h
  have HR2 := Lib.hid h2
  have HM := Lib.hid h3
  obtain ⟨lg, hlg⟩ : ∃ lg, lg = (longP O || longP B) := ⟨_, rfl⟩
  have HLG := Lib.hid hlg
  obtain ⟨lm, hlm⟩ : ∃ lm, lm = longP [m] := ⟨_, rfl⟩
  have HLM := Lib.hid hlm
  obtain ⟨my, hmy⟩ : ∃ my, my = ((runR O B).2 == 0) := ⟨_, rfl⟩
  have HMY := Lib.hid hmy
  clear h h2 h3 hlg hmy hlm
  go_enter Tryz.func3, Tryz.ntmps3
  go_wp2_with fail
  refine (long25_calls AnyB _ _ _ O _ _ _ B _ HR.out HR2.out).mono ?_
  rw [← HLG.out]
  rintro e w1 ⟨rfl, rfl⟩
  cases lg
  case true =>
    go_wp2_with fail
    refine (awake25_calls _).mono ?_
    rintro e w2 ⟨hb2, rfl⟩
    have HB2 := Lib.hid hb2
    clear hb2
    go_wp2
    go_ret
    exact ⟨HB2.out, rfl⟩
  case false =>
    go_wp2_with fail
    refine (some_row _ _ _ [m] _ (one_row Kd.step (alloc_last rfl) (HM.out.below (below_alloc _ _)) (by simp))).mono ?_
    rintro e w2 ⟨hb2, rfl, hr2⟩
    have HB2 := Lib.hid (below_next (below_alloc _ _) hb2)
    have HRS := Lib.hid hr2
    clear hb2 hr2
    go_wp2_with fail
    refine (long_calls AnyB _ _ _ [m] _ HRS.out).mono ?_
    rw [← HLM.out]
    rintro e w3 ⟨rfl, rfl⟩
    cases lm
    case true =>
      go_wp2_with fail
      refine (awake25_calls _).mono ?_
      rintro e w4 ⟨hb4, rfl⟩
      have HB4 := Lib.hid (below_next HB2.out hb4)
      clear hb4
      go_wp2
      go_ret
      exact ⟨HB4.out, rfl⟩
    case false =>
      go_wp2_with fail
      refine (may_calls AnyB _ _ _ O _ _ _ B _ (HR.out.below HB2.out) (HR2.out.below HB2.out)).mono ?_
      rw [← HMY.out]
      rintro e w4 ⟨hb4, rfl⟩
      have HB4 := Lib.hid (below_next HB2.out hb4)
      clear hb4
      cases my
      case false =>
        go_wp2_with fail
        refine (awake25_calls _).mono ?_
        rintro e w5 ⟨hb5, rfl⟩
        have HB5 := Lib.hid (below_next HB4.out hb5)
        clear hb5
        go_wp2
        go_ret
        exact ⟨HB5.out, rfl⟩
      case true =>
        have h0 : wrongM O B = 0 := run_ok3.1 (eq_of_beq HMY.out.symm)
        have hmb := mono_b (m := m) h0
        have hmo := mono_o (m := m) h0
        have HOB := Lib.hid (And.intro (wrongM_ok.1 h0).1 (wrongM_ok.1 h0).2.1)
        obtain ⟨rx, hrx⟩ : ∃ r, r = runR O B := ⟨_, rfl⟩
        obtain ⟨ry, hry⟩ : ∃ r, r = runR O (B ++ [m]) := ⟨_, rfl⟩
        obtain ⟨rz, hrz⟩ : ∃ r, r = runR (O ++ [m]) B := ⟨_, rfl⟩
        have hx0 : rx.2 = 0 := by rw [hrx]; exact run_ok3.2 h0
        rw [← hrx, ← hry] at hmb
        rw [← hrx, ← hrz] at hmo
        obtain ⟨⟨qx, px, lx, sx, tx⟩, ex⟩ := rx
        obtain ⟨⟨qy, py, ly, sy, ty⟩, ey⟩ := ry
        obtain ⟨⟨qz, pz, lz, sz, tz⟩, ez⟩ := rz
        simp only at hmb hmo hx0
        subst hx0
        have HX := Lib.hid hrx.symm
        have HY := Lib.hid hry.symm
        have HZ := Lib.hid hrz.symm
        have HMB := Lib.hid hmb
        have HMO := Lib.hid hmo
        clear h0 hmb hmo hrx hry hrz
        go_wp2_with fail
        refine (awake25_calls _).mono ?_
        rintro e w5 ⟨hb5, rfl⟩
        have HB5 := Lib.hid (below_next HB4.out hb5)
        clear hb5
        go_wp2_with fail
        refine (run_calls AnyB _ _ _ O _ _ _ B _ (HR.out.below HB5.out) (HR2.out.below HB5.out)).mono ?_
        rw [HX.out]
        rintro e w6 ⟨hb6, v6, rfl, A6a, A6b, c6a, c6b, rfl, -, -⟩
        obtain ⟨l6a, hl6a⟩ : ∃ l, l = sx.length := ⟨_, rfl⟩
        obtain ⟨l6b, hl6b⟩ : ∃ l, l = tx.length := ⟨_, rfl⟩
        simp only
        rw [← hl6a, ← hl6b]
        obtain ⟨Wx, hWx, gx, hBx, hsx⟩ := one_box w6 (.cells #[.int .i64 qx, .int .i64 px, .int .i64 lx, .slice A6a l6a c6a, .slice A6b l6b c6b] 30)
        obtain ⟨Xx, hXx⟩ : ∃ X, X = w6.heap.size := ⟨_, rfl⟩
        rw [← hXx] at gx
        have HBBx := Lib.hid (below_next hb6 hBx)
        have HBx := Lib.hid (below_next HB5.out HBBx.out)
        have Gx := Lib.hid gx
        have HWx := Lib.hid hWx
        clear hb6 hl6a hl6b hWx gx hBx hsx
        go_upto_region 4 with fail
        rw [HWx.out, ← hXx]
        clear HWx hXx
        have HBX6 := Lib.hid HBx.out
        have HRL := Lib.hid (HR2.out.below HBX6.out).live
        have HML := Lib.hid (HM.out.below HBX6.out).live
        go_wp2_with (at_builtin; refine wp_append_row Kd.curve rfl _ _ 22 rfl 23 _ 24 Tryz.underlying22 info_curve26 rfl (by decide) Wx.heap.size (fun k _ => k < Wx.heap.size) (.slice (some ⟨Wx.heap.size, 0, none⟩) 0 0) [] rfl ?hown _ B rfl (fun k o => AnyB k o ∧ k < Wx.heap.size ∧ IsCells o) ?hrow ?hok ?hby ?hba ?_)
        case hown => exact (Own.empty2 Kd.curve (alloc_last rfl) (Nat.le_refl _)).mono (fun _ _ h => h.elim) (fun k _ h e => by simp [Value.ownBlock] at e; omega)
        case hrow => exact HRL.out.below (below_alloc _ _)
        case hok => exact fun x cs h => Kd.curve.mono (fun _ _ h => h.2.1) h
        case hby => have := HOB.out.2; simp; omega
        case hba => simp
        intro va1 wa1 hown4 hg4 hat4
        obtain ⟨Aa1, ca1, rfl⟩ := hown4.form
        have HBx : Hid (Below Wx.heap.size Wx wa1) := Lib.hid (below_grown (below_alloc _ _) hg4 (fun j hj => by simp [Value.ownBlock] at hj; omega))
        have HO4 : Hid (Own Kd.curve 23 Wx.heap.size (fun k _ => k < Wx.heap.size) wa1 (.slice Aa1 B.length ca1) B) := Lib.hid (hown4.mono (fun _ _ h => h.1) (fun k _ h e => by have := (hown4.base_le k e).1; omega))
        clear hown4 hg4 hat4
        go_wp2_with (at_builtin; refine wp_append Kd.curve rfl _ _ 22 rfl 23 _ 24 Tryz.underlying22 info_curve26 rfl (by decide) Wx.heap.size (fun k _ => k < Wx.heap.size) _ B rfl ?hown _ [m] rfl ?hel ?hby ?hba ?_)
        case hown => exact HO4.out.below (below_alloc _ _)
        case hel => exact Elems.one (cs := #[.slice A3 (List.length m) c3]) ⟨_, rfl, ((HML.out.below HBx.out).below (below_alloc _ _)).mono (fun _ _ h => h.2.1)⟩ (alloc_last rfl)
        case hby => have := HOB.out.2; simp; omega
        case hba => have := HBx.out.size; simp; omega
        intro vb1 wb1 hown5 hg5 hat5
        obtain ⟨Ab1, cb1, hv5⟩ := hown5.form
        rw [show (B ++ [m]).length = B.length + 1 by simp] at hv5
        subst hv5
        have HBa1 : Hid (Below Wx.heap.size Wx wb1) := Lib.hid (below_grown (bd_alloc0 HBx.out _) hg5 (fun j hj => (HO4.out.base_le j hj).1))
        have HA1 : Hid (Row Kd.curve AnyB wb1 (.slice Ab1 (B.length + 1) cb1) (B ++ [m])) := Lib.hid (by have h1 := hown5.row.all; exact h1)
        clear hown5 hg5 hat5 HRL HML HBx HO4
        have Gx1 := Lib.hid (heap_below HBa1.out Gx.out)
        have HB7 := Lib.hid (below_next HBX6.out HBa1.out)
        go_wp2_with fail
        refine (run_calls AnyB _ _ _ O _ _ _ (B ++ [m]) _ (HR.out.below HB7.out) HA1.out).mono ?_
        rw [HY.out]
        rintro e w8 ⟨hb8, v8, rfl, A8a, A8b, c8a, c8b, rfl, -, -⟩
        obtain ⟨l8a, hl8a⟩ : ∃ l, l = sy.length := ⟨_, rfl⟩
        obtain ⟨l8b, hl8b⟩ : ∃ l, l = ty.length := ⟨_, rfl⟩
        simp only
        rw [← hl8a, ← hl8b]
        obtain ⟨Wy, hWy, gy, hBy, hsy⟩ := one_box w8 (.cells #[.int .i64 qy, .int .i64 py, .int .i64 ly, .slice A8a l8a c8a, .slice A8b l8b c8b] 30)
        obtain ⟨Xy, hXy⟩ : ∃ X, X = w8.heap.size := ⟨_, rfl⟩
        rw [← hXy] at gy
        have HBBy := Lib.hid (below_next hb8 hBy)
        have HBy := Lib.hid (below_next HB7.out HBBy.out)
        have Gy := Lib.hid gy
        have Gx2 := Lib.hid (heap_below HBBy.out Gx1.out)
        have HWy := Lib.hid hWy
        clear hb8 hl8a hl8b hWy gy hBy hsy
        go_upto_region 5 with fail
        rw [HWy.out, ← hXy]
        clear HWy hXy
        have HBY8 := Lib.hid HBy.out
        have HRL := Lib.hid (HR.out.below HBY8.out).live
        have HML := Lib.hid (HM.out.below HBY8.out).live
        go_wp2_with (at_builtin; refine wp_append_row Kd.curve rfl _ _ 22 rfl 23 _ 24 Tryz.underlying22 info_curve26 rfl (by decide) Wy.heap.size (fun k _ => k < Wy.heap.size) (.slice (some ⟨Wy.heap.size, 0, none⟩) 0 0) [] rfl ?hown _ O rfl (fun k o => AnyB k o ∧ k < Wy.heap.size ∧ IsCells o) ?hrow ?hok ?hby ?hba ?_)
        case hown => exact (Own.empty2 Kd.curve (alloc_last rfl) (Nat.le_refl _)).mono (fun _ _ h => h.elim) (fun k _ h e => by simp [Value.ownBlock] at e; omega)
        case hrow => exact HRL.out.below (below_alloc _ _)
        case hok => exact fun x cs h => Kd.curve.mono (fun _ _ h => h.2.1) h
        case hby => have := HOB.out.1; simp; omega
        case hba => simp
        intro va2 wa2 hown4 hg4 hat4
        obtain ⟨Aa2, ca2, rfl⟩ := hown4.form
        have HBx : Hid (Below Wy.heap.size Wy wa2) := Lib.hid (below_grown (below_alloc _ _) hg4 (fun j hj => by simp [Value.ownBlock] at hj; omega))
        have HO4 : Hid (Own Kd.curve 23 Wy.heap.size (fun k _ => k < Wy.heap.size) wa2 (.slice Aa2 O.length ca2) O) := Lib.hid (hown4.mono (fun _ _ h => h.1) (fun k _ h e => by have := (hown4.base_le k e).1; omega))
        clear hown4 hg4 hat4
        go_wp2_with (at_builtin; refine wp_append Kd.curve rfl _ _ 22 rfl 23 _ 24 Tryz.underlying22 info_curve26 rfl (by decide) Wy.heap.size (fun k _ => k < Wy.heap.size) _ O rfl ?hown _ [m] rfl ?hel ?hby ?hba ?_)
        case hown => exact HO4.out.below (below_alloc _ _)
        case hel => exact Elems.one (cs := #[.slice A3 (List.length m) c3]) ⟨_, rfl, ((HML.out.below HBx.out).below (below_alloc _ _)).mono (fun _ _ h => h.2.1)⟩ (alloc_last rfl)
        case hby => have := HOB.out.1; simp; omega
        case hba => have := HBx.out.size; simp; omega
        intro vb2 wb2 hown5 hg5 hat5
        obtain ⟨Ab2, cb2, hv5⟩ := hown5.form
        rw [show (O ++ [m]).length = O.length + 1 by simp] at hv5
        subst hv5
        have HBa2 : Hid (Below Wy.heap.size Wy wb2) := Lib.hid (below_grown (bd_alloc0 HBx.out _) hg5 (fun j hj => (HO4.out.base_le j hj).1))
        have HA2 : Hid (Row Kd.curve AnyB wb2 (.slice Ab2 (O.length + 1) cb2) (O ++ [m])) := Lib.hid (by have h1 := hown5.row.all; exact h1)
        clear hown5 hg5 hat5 HRL HML HBx HO4
        have Gx3 := Lib.hid (heap_below HBa2.out Gx2.out)
        have Gy3 := Lib.hid (heap_below HBa2.out Gy.out)
        have HB9 := Lib.hid (below_next HBY8.out HBa2.out)
        go_wp2_with fail
        refine (run_calls AnyB _ _ _ (O ++ [m]) _ _ _ B _ HA2.out (HR2.out.below HB9.out)).mono ?_
        rw [HZ.out]
        rintro e w10 ⟨hb10, v10, rfl, A10a, A10b, c10a, c10b, rfl, -, -⟩
        obtain ⟨l10a, hl10a⟩ : ∃ l, l = sz.length := ⟨_, rfl⟩
        obtain ⟨l10b, hl10b⟩ : ∃ l, l = tz.length := ⟨_, rfl⟩
        simp only
        rw [← hl10a, ← hl10b]
        obtain ⟨Wz, hWz, gz, hBz, hsz⟩ := one_box w10 (.cells #[.int .i64 qz, .int .i64 pz, .int .i64 lz, .slice A10a l10a c10a, .slice A10b l10b c10b] 30)
        obtain ⟨Xz, hXz⟩ : ∃ X, X = w10.heap.size := ⟨_, rfl⟩
        rw [← hXz] at gz
        have HBBz := Lib.hid (below_next hb10 hBz)
        have HBz := Lib.hid (below_next HB9.out HBBz.out)
        have Gz := Lib.hid gz
        have Gx4 := Lib.hid (heap_below HBBz.out Gx3.out)
        have Gy4 := Lib.hid (heap_below HBBz.out Gy3.out)
        have HWz := Lib.hid hWz
        clear hb10 hl10a hl10b hWz gz hBz hsz
        go_upto_region 6 with fail
        rw [HWz.out, ← hXz]
        clear HWz hXz
        have HMZ := Lib.hid (HM.out.below HBz.out)
        obtain ⟨d1, hd1⟩ : ∃ d, d = curveE downA m := ⟨_, rfl⟩
        obtain ⟨d2, hd2⟩ : ∃ d, d = curveE upA m := ⟨_, rfl⟩
        have HD1 := Lib.hid hd1
        have HD2 := Lib.hid hd2
        have hmb : (ey = 0 ↔ B.length < 6 ∧ d1 = 0) ∧ (ey = 0 → px ≤ py ∧ lx ≤ ly) := by rw [hd1]; exact HMB.out
        have hmo : (ez = 0 ↔ O.length < 5 ∧ d2 = 0) ∧ (ez = 0 → pz ≤ px ∧ lx ≤ lz) := by rw [hd2]; exact HMO.out
        obtain ⟨hmb1, hmb2⟩ := hmb
        obtain ⟨hmo1, hmo2⟩ := hmo
        have HMB1 := Lib.hid hmb1
        have HMB2 := Lib.hid hmb2
        have HMO1 := Lib.hid hmo1
        have HMO2 := Lib.hid hmo2
        have x1 : Wz.cell? ⟨Xx, 1, none⟩ = some (.int .i64 px) := hcell Gx4.out 1 rfl
        have x2 : Wz.cell? ⟨Xx, 2, none⟩ = some (.int .i64 lx) := hcell Gx4.out 2 rfl
        have y1 : Wz.cell? ⟨Xy, 1, none⟩ = some (.int .i64 py) := hcell Gy4.out 1 rfl
        have y2 : Wz.cell? ⟨Xy, 2, none⟩ = some (.int .i64 ly) := hcell Gy4.out 2 rfl
        have z1 : Wz.cell? ⟨Xz, 1, none⟩ = some (.int .i64 pz) := hcell Gz.out 1 rfl
        have z2 : Wz.cell? ⟨Xz, 2, none⟩ = some (.int .i64 lz) := hcell Gz.out 2 rfl
        clear hd1 hd2 hmb1 hmb2 hmo1 hmo2
        by_cases hb : B.length < 6
        · have hb6 : (B.length : Int) < 6 := by omega
          by_cases hd : d1 = 0
          · have hey : ey = 0 := HMB1.out.2 ⟨hb, hd⟩
            have hb2 := HMB2.out hey
            obtain ⟨hb3, hb4⟩ := hb2
            subst hey hd
            clear hb
            go_wp2_with fail
            refine (check_down AnyB _ _ _ m _ (HMZ.out)).mono ?_
            rw [← HD1.out]
            rintro e u1 ⟨hbu1, rfl⟩
            have x1 := cell_below hbu1 x1
            have x2 := cell_below hbu1 x2
            have y1 := cell_below hbu1 y1
            have y2 := cell_below hbu1 y2
            have z1 := cell_below hbu1 z1
            have z2 := cell_below hbu1 z2
            have HC1 := Lib.hid (hbu1)
            clear hbu1
            by_cases ho : O.length < 5
            · have ho5 : (O.length : Int) < 5 := by omega
              by_cases hd : d2 = 0
              · have hez : ez = 0 := HMO1.out.2 ⟨ho, hd⟩
                have ho2 := HMO2.out hez
                obtain ⟨ho3, ho4⟩ := ho2
                subst hez hd
                clear ho
                go_wp2_with fail
                refine (check_up AnyB _ _ _ m _ (HMZ.out.below HC1.out)).mono ?_
                rw [← HD2.out]
                rintro e u2 ⟨hbu2, rfl⟩
                have x1 := cell_below hbu2 x1
                have x2 := cell_below hbu2 x2
                have y1 := cell_below hbu2 y1
                have y2 := cell_below hbu2 y2
                have z1 := cell_below hbu2 z1
                have z2 := cell_below hbu2 z2
                have HC2 := Lib.hid (below_next HC1.out hbu2)
                clear hbu2
                go_wp2
                go_ret
                exact ⟨below_next HBz.out HC2.out, rfl⟩
              · have hez : ¬ ez = 0 := fun h => hd (HMO1.out.1 h).2
                have hez1 : (ez == 0) = false := by rw [beq_eq_false_iff_ne]; exact hez
                have hez2 : (ez != 0) = true := by simp [bne, hez1]
                have hd1 : (d2 == 0) = false := by rw [beq_eq_false_iff_ne]; exact hd
                clear hez hd ho
                go_wp2_with fail
                refine (check_up AnyB _ _ _ m _ (HMZ.out.below HC1.out)).mono ?_
                rw [← HD2.out]
                rintro e u2 ⟨hbu2, rfl⟩
                have x1 := cell_below hbu2 x1
                have x2 := cell_below hbu2 x2
                have y1 := cell_below hbu2 y1
                have y2 := cell_below hbu2 y2
                have z1 := cell_below hbu2 z1
                have z2 := cell_below hbu2 z2
                have HC2 := Lib.hid (below_next HC1.out hbu2)
                clear hbu2
                go_wp2
                go_ret
                exact ⟨below_next HBz.out HC2.out, rfl⟩
            · have ho5 : (5 : Int) ≤ (O.length : Int) := by omega
              have hez : ¬ ez = 0 := fun h => ho (HMO1.out.1 h).1
              have hez1 : (ez == 0) = false := by rw [beq_eq_false_iff_ne]; exact hez
              have hez2 : (ez != 0) = true := by simp [bne, hez1]
              clear hez ho
              go_wp2
              go_ret
              exact ⟨below_next HBz.out HC1.out, rfl⟩
          · have hey : ¬ ey = 0 := fun h => hd (HMB1.out.1 h).2
            have hey1 : (ey == 0) = false := by rw [beq_eq_false_iff_ne]; exact hey
            have hey2 : (ey != 0) = true := by simp [bne, hey1]
            have hdd : (d1 == 0) = false := by rw [beq_eq_false_iff_ne]; exact hd
            clear hey hd hb
            go_wp2_with fail
            refine (check_down AnyB _ _ _ m _ (HMZ.out)).mono ?_
            rw [← HD1.out]
            rintro e u1 ⟨hbu1, rfl⟩
            have x1 := cell_below hbu1 x1
            have x2 := cell_below hbu1 x2
            have y1 := cell_below hbu1 y1
            have y2 := cell_below hbu1 y2
            have z1 := cell_below hbu1 z1
            have z2 := cell_below hbu1 z2
            have HC1 := Lib.hid (hbu1)
            clear hbu1
            by_cases ho : O.length < 5
            · have ho5 : (O.length : Int) < 5 := by omega
              by_cases hd : d2 = 0
              · have hez : ez = 0 := HMO1.out.2 ⟨ho, hd⟩
                have ho2 := HMO2.out hez
                obtain ⟨ho3, ho4⟩ := ho2
                subst hez hd
                clear ho
                go_wp2_with fail
                refine (check_up AnyB _ _ _ m _ (HMZ.out.below HC1.out)).mono ?_
                rw [← HD2.out]
                rintro e u2 ⟨hbu2, rfl⟩
                have x1 := cell_below hbu2 x1
                have x2 := cell_below hbu2 x2
                have y1 := cell_below hbu2 y1
                have y2 := cell_below hbu2 y2
                have z1 := cell_below hbu2 z1
                have z2 := cell_below hbu2 z2
                have HC2 := Lib.hid (below_next HC1.out hbu2)
                clear hbu2
                go_wp2
                go_ret
                exact ⟨below_next HBz.out HC2.out, rfl⟩
              · have hez : ¬ ez = 0 := fun h => hd (HMO1.out.1 h).2
                have hez1 : (ez == 0) = false := by rw [beq_eq_false_iff_ne]; exact hez
                have hez2 : (ez != 0) = true := by simp [bne, hez1]
                have hd1 : (d2 == 0) = false := by rw [beq_eq_false_iff_ne]; exact hd
                clear hez hd ho
                go_wp2_with fail
                refine (check_up AnyB _ _ _ m _ (HMZ.out.below HC1.out)).mono ?_
                rw [← HD2.out]
                rintro e u2 ⟨hbu2, rfl⟩
                have x1 := cell_below hbu2 x1
                have x2 := cell_below hbu2 x2
                have y1 := cell_below hbu2 y1
                have y2 := cell_below hbu2 y2
                have z1 := cell_below hbu2 z1
                have z2 := cell_below hbu2 z2
                have HC2 := Lib.hid (below_next HC1.out hbu2)
                clear hbu2
                go_wp2
                go_ret
                exact ⟨below_next HBz.out HC2.out, rfl⟩
            · have ho5 : (5 : Int) ≤ (O.length : Int) := by omega
              have hez : ¬ ez = 0 := fun h => ho (HMO1.out.1 h).1
              have hez1 : (ez == 0) = false := by rw [beq_eq_false_iff_ne]; exact hez
              have hez2 : (ez != 0) = true := by simp [bne, hez1]
              clear hez ho
              go_wp2
              go_ret
              exact ⟨below_next HBz.out HC1.out, rfl⟩
        · have hb6 : (6 : Int) ≤ (B.length : Int) := by omega
          have hey : ¬ ey = 0 := fun h => hb (HMB1.out.1 h).1
          have hey1 : (ey == 0) = false := by rw [beq_eq_false_iff_ne]; exact hey
          have hey2 : (ey != 0) = true := by simp [bne, hey1]
          clear hey hb
          by_cases ho : O.length < 5
          · have ho5 : (O.length : Int) < 5 := by omega
            by_cases hd : d2 = 0
            · have hez : ez = 0 := HMO1.out.2 ⟨ho, hd⟩
              have ho2 := HMO2.out hez
              obtain ⟨ho3, ho4⟩ := ho2
              subst hez hd
              clear ho
              go_wp2_with fail
              refine (check_up AnyB _ _ _ m _ (HMZ.out)).mono ?_
              rw [← HD2.out]
              rintro e u1 ⟨hbu1, rfl⟩
              have x1 := cell_below hbu1 x1
              have x2 := cell_below hbu1 x2
              have y1 := cell_below hbu1 y1
              have y2 := cell_below hbu1 y2
              have z1 := cell_below hbu1 z1
              have z2 := cell_below hbu1 z2
              have HC1 := Lib.hid (hbu1)
              clear hbu1
              go_wp2
              go_ret
              exact ⟨below_next HBz.out HC1.out, rfl⟩
            · have hez : ¬ ez = 0 := fun h => hd (HMO1.out.1 h).2
              have hez1 : (ez == 0) = false := by rw [beq_eq_false_iff_ne]; exact hez
              have hez2 : (ez != 0) = true := by simp [bne, hez1]
              have hd1 : (d2 == 0) = false := by rw [beq_eq_false_iff_ne]; exact hd
              clear hez hd ho
              go_wp2_with fail
              refine (check_up AnyB _ _ _ m _ (HMZ.out)).mono ?_
              rw [← HD2.out]
              rintro e u1 ⟨hbu1, rfl⟩
              have x1 := cell_below hbu1 x1
              have x2 := cell_below hbu1 x2
              have y1 := cell_below hbu1 y1
              have y2 := cell_below hbu1 y2
              have z1 := cell_below hbu1 z1
              have z2 := cell_below hbu1 z2
              have HC1 := Lib.hid (hbu1)
              clear hbu1
              go_wp2
              go_ret
              exact ⟨below_next HBz.out HC1.out, rfl⟩
          · have ho5 : (5 : Int) ≤ (O.length : Int) := by omega
            have hez : ¬ ez = 0 := fun h => ho (HMO1.out.1 h).1
            have hez1 : (ez == 0) = false := by rw [beq_eq_false_iff_ne]; exact hez
            have hez2 : (ez != 0) = true := by simp [bne, hez1]
            clear hez ho
            go_wp2
            go_ret
            exact ⟨HBz.out, rfl⟩
#print axioms cmono_calls
end Go.Proofs.YtlaemhigmgmgjaaGreat
