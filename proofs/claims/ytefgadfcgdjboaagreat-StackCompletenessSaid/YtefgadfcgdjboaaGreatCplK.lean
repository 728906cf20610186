/- StackCompleteness: the walk. The law returns true, whatever the curves. No condition. -/
import Derived.Test.YtefgadfcgdjboaaGreatK10
namespace Go.Proofs.YtefgadfcgdjboaaGreat
set_option linter.unusedVariables false
set_option linter.unusedSimpArgs false
open Go.RowKit

theorem sumE_valid {up : Bool} {c : Crv} (h : curveE (afterOf up) c = 0) : sumE c = qtySum c := by
  unfold sumE
  rw [if_pos]
  unfold eitherE
  cases up
  · rw [if_pos (show curveE downA c = 0 from h)]
  · by_cases hd : curveE downA c = 0
    · rw [if_pos hd]
    · rw [if_neg hd]; exact h
theorem qtySum_in {up : Bool} {c : Crv} (h : curveE (afterOf up) c = 0) : 0 ≤ qtySum c ∧ qtySum c ≤ 3000000 := by
  have h1 := curveE_in h
  have h2 := qtySum_le c h1.2.2 c.length (Nat.le_refl _)
  rw [List.take_length] at h2
  omega
theorem sumTake' {f : Crv → Int} {L : List Crv} {k : Nat} (hk : k < L.length) : ((L.take (k + 1)).map f).sum = ((L.take k).map f).sum + f L[k] := by
  rw [List.take_succ_eq_append_getElem hk, List.map_append, List.sum_append]; simp
theorem qtys_bd {up : Bool} {L : List Crv} (h : ∀ c ∈ L, curveE (afterOf up) c = 0) : ∀ k, k ≤ L.length → 0 ≤ ((L.take k).map qtySum).sum ∧ ((L.take k).map qtySum).sum ≤ 3000000 * k
  | 0, _ => by simp
  | k + 1, hk => by
    have h1 := qtys_bd h k (by omega)
    have h2 := qtySum_in (h L[k] (List.getElem_mem _))
    rw [sumTake' (by omega)]; omega

set_option maxRecDepth 100000 in
set_option maxHeartbeats 4000000 in
theorem cpl_calls (A : Option Addr) (n c : Nat) (L : List Crv) (bids : Bool) (w : World) (h : Row Kd.curve AnyB w (.slice A n c) L) :
    Calls Tryz.prog 3 #[.slice A n c, .bool bids] w fun e w' => Below w.heap.size w w' ∧ e = .returned (.bool true) := by
  obtain rfl := h.len
  have hm := h.small
  have HR := Lib.hid h
  clear h
  go_enter Tryz.func3, Tryz.ntmps3
  obtain ⟨lg, hlg⟩ : ∃ lg, lg = longP L := ⟨_, rfl⟩
  have HLG := Lib.hid hlg
  clear hlg
  go_wp2_with fail
  refine (long_calls AnyB _ _ _ L _ HR.out).mono ?_
  rintro e w1 ⟨hw1, rfl⟩
  rw [← HLG.out]
  subst hw1
  cases lg with
  | true =>
    go_wp2_with fail
    refine (awake_calls _).mono ?_
    rintro e w2 ⟨hb2, rfl⟩
    have HB2 := Lib.hid hb2
    clear hb2
    go_wp2
    go_ret
    exact ⟨HB2.out, rfl⟩
  | false =>
    go_wp2_with fail
    refine (awake_calls _).mono ?_
    rintro e w2 ⟨hb2, rfl⟩
    have HB2 := Lib.hid hb2
    have HR2 := Lib.hid (HR.out.below hb2)
    clear hb2
    obtain ⟨s, hs⟩ : ∃ s, s = stackedR bids L := ⟨_, rfl⟩
    obtain ⟨S, se⟩ := s
    have HS := Lib.hid hs
    clear hs
    go_wp2_with fail
    refine (stacked_calls _ _ _ _ L bids _ HR2.out).mono ?_
    rintro e w4 ⟨hb4, v4, rfl, hv4⟩
    rw [← HS.out] at hv4 ⊢
    simp only at hv4
    obtain ⟨A4, c4, rfl, -⟩ := hv4.form
    have HB4 := Lib.hid (below_next HB2.out hb4)
    have HV4 : Hid (Row Kd.level AnyB w4 (.slice A4 S.length c4) S) := Lib.hid (hv4.mono fun _ _ _ => trivial)
    have HR4 := Lib.hid (HR2.out.below hb4)
    clear hb4 hv4
    by_cases hs0 : se = 0
    · have hmS : mergeR (!bids) L = (S, (mergeR (!bids) L).2.1, se) := by
        have h1 := HS.out
        unfold stackedR at h1
        simp only [Prod.mk.injEq] at h1
        rw [h1.1, h1.2]
      have hv : Valid (!bids) L := mergeR_ok.1 (by rw [hmS]; exact hs0)
      rw [mergeR_valid hv] at hmS
      simp only [Prod.mk.injEq] at hmS
      have hSd : S = stackOf (!bids) L := hmS.1.symm
      have HSD := Lib.hid hSd
      have HV := Lib.hid hv
      have hL16 := hv.1
      subst hs0
      clear hmS hv hSd HS
      go_wp2_with fail
      go_loopw [7, 8] (fun a i wr => ∃ (k : Nat) (u : Int), k ≤ L.length ∧ a = .int .i64 u ∧ i = .int .i64 k ∧ Hid (u = ((L.take k).map qtySum).sum) ∧ Hid (Below w4.heap.size w4 wr))
        (fun _ i _ => L.length - (intOf i).toNat)
      case atStart => exact ⟨0, 0, Nat.zero_le _, rfl, rfl, rfl, Below.refl _ _⟩
      case round =>
        obtain ⟨k, u, hk, rfl, rfl, HU, HBW⟩ := hrel
        have hle := qtys_bd HV.out.2 k hk
        rw [← HU.out] at hle
        obtain ⟨h1, h2⟩ := hle
        by_cases hlt : k < L.length
        · obtain ⟨b, off, A', c', rfl, y0, hv⟩ := curve_cell (HR4.out.below HBW.out) hlt
          have hu1 := sumTake' (f := qtySum) hlt
          rw [← HU.out] at hu1
          have hcv := HV.out.2 L[k] (List.getElem_mem _)
          obtain ⟨cv, hcvd⟩ : ∃ cv, cv = L[k] := ⟨_, rfl⟩
          rw [← hcvd] at y0 hv hu1 hcv
          obtain ⟨p, hp⟩ : ∃ p, p = qtySum cv := ⟨_, rfl⟩
          have hpb := qtySum_in hcv
          rw [← hp] at hu1 hpb
          obtain ⟨h3, h4⟩ := hpb
          have hwu : IntKind.i64.wrap (u + p) = u + p := IntWalk.i64_in _ ⟨by omega, by omega⟩
          have HU1 := Lib.hid hu1
          have HVC := Lib.hid hv
          have HP : Hid (sumE cv = p) := Lib.hid (by rw [hp]; exact sumE_valid hcv)
          have hk0 : (0 : Int) ≤ (k : Int) := by omega
          have hk1 : (k : Int) < (L.length : Int) := by omega
          clear hu1 hcv hcvd hp hv
          go_wp2_with fail
          refine (sum_calls AnyB _ _ _ cv _ (HVC.out.mono (fun _ _ _ => trivial))).mono ?_
          rintro e w5 ⟨hb5, rfl⟩
          rw [HP.out]
          have HB5 := Lib.hid (below_next HBW.out hb5)
          clear hb5 y0
          go_wp2
          go_roundw
          case rel => exact ⟨k + 1, u + p, hlt, rfl, by go_num, HU1.out.symm, HB5.out⟩
          case measure => simp [intOf]; omega
        · obtain rfl : k = L.length := by omega
          have hut : u = totalE S := by rw [HU.out, List.take_length, HSD.out, total_stack HV.out]
          have hub : (u : Rat) = (L.map totC).sum := by rw [hut, HSD.out]; exact total_tot HV.out
          have hq0 : (0 : Rat) ≤ (u : Rat) := by exact_mod_cast h1
          have hX : shareR S (u : Rat) = (L.map totC, 0) := by
            rw [HSD.out, shareR_valid HV.out hq0 (by rw [hut, HSD.out]; exact Rat.le_refl), hub, share_all HV.out]
          have hY : shareR S 0 = (List.replicate L.length 0, 0) := by
            rw [HSD.out, shareR_valid HV.out Rat.le_refl (by rw [← HSD.out, ← hut]; exact hq0), share_none HV.out]
          have HUT := Lib.hid hut
          have HQ0 := Lib.hid hq0
          have HX := Lib.hid hX
          have HY := Lib.hid hY
          have HCK : Hid (checkE S = 0) := Lib.hid (by rw [HSD.out]; exact check_stack HV.out)
          have HVS := Lib.hid (HV4.out.below HBW.out)
          have HRS := Lib.hid (HR4.out.below HBW.out)
          have HBS := Lib.hid (below_next HB4.out HBW.out)
          obtain ⟨wo, hwo⟩ : ∃ wo : World, wo = wr := ⟨_, rfl⟩
          rw [← hwo] at HVS HRS HBS ⊢
          clear hwo hut hub hq0 hX hY HU HBW
          go_wp2_with fail
          refine (ffrom_calls u _ ⟨by omega, by omega⟩).mono ?_
          rintro e w5 ⟨hb5, r5, rfl, hr5⟩
          obtain ⟨t1, A1, m1, c1, s1, B1, j1, d1, rfl, Z5⟩ := hr5.open
          have HB5 := Lib.hid hb5
          clear hb5 hr5
          go_wp2_with fail
          refine (share_calls AnyB _ _ _ S _ (u : Rat) 1 _ (HVS.out.below HB5.out) ((Z5.out.qin (fits_int (by omega))).any) (by omega) (by omega) HQ0.out).mono ?_
          rintro e w6 ⟨hb6, v6, rfl, hv6⟩
          rw [HX.out] at hv6 ⊢
          simp only at hv6
          obtain ⟨A6, c6, hA6, -⟩ := hv6.form
          rw [List.length_map] at hA6
          subst hA6
          have HB6 := Lib.hid (below_next HB5.out hb6)
          have HX6 := Lib.hid hv6
          clear hb6 hv6
          go_wp2_with fail
          refine (share_calls AnyB _ _ _ S _ 0 1 _ (HVS.out.below HB6.out) (QIn.zero _ _ 1) (by omega) (by omega) Rat.le_refl).mono ?_
          rintro e w7 ⟨hb7, v7, rfl, hv7⟩
          rw [HY.out] at hv7 ⊢
          simp only at hv7
          obtain ⟨A7, c7, hA7, -⟩ := hv7.form
          rw [List.length_replicate] at hA7
          subst hA7
          have HB7 := Lib.hid (below_next HB6.out hb7)
          have HX7 := Lib.hid (HX6.out.below hb7)
          have HY7 := Lib.hid hv7
          clear hb7 hv7
          go_wp2_with fail
          refine (check_calls AnyB _ _ _ S _ (HVS.out.below HB7.out)).mono ?_
          rintro e w8 ⟨hb8, rfl⟩
          rw [HCK.out]
          have HB8 := Lib.hid (below_next HB7.out hb8)
          have HX8 := Lib.hid (HX7.out.below hb8)
          have HY8 := Lib.hid (HY7.out.below hb8)
          clear hb8
          go_wp2_with fail
          refine (total_calls AnyB _ _ _ S _ (HVS.out.below HB8.out)).mono ?_
          rintro e w9 ⟨hb9, rfl⟩
          rw [← HUT.out]
          have HB9 := Lib.hid (below_next HB8.out hb9)
          have HX9 := Lib.hid (HX8.out.below hb9)
          have HY9 := Lib.hid (HY8.out.below hb9)
          have HR9 := Lib.hid (HRS.out.below HB9.out)
          have HBB := Lib.hid (below_next HBS.out HB9.out)
          clear hb9
          go_wp2_with fail
          go_loopw [13] (fun i wr => ∃ k : Nat, k ≤ L.length ∧ i = .int .i64 k ∧ Hid (Below w9.heap.size w9 wr))
            (fun i _ => L.length - (intOf i).toNat)
          case atStart => exact ⟨0, Nat.zero_le _, rfl, Below.refl _ _⟩
          case round =>
            obtain ⟨k, hk, rfl, HBW⟩ := hrel
            by_cases hlt : k < L.length
            · obtain ⟨b, off, A', c', rfl, y0, hv⟩ := curve_cell (HR9.out.below HBW.out) hlt
              obtain ⟨bx, ox, t2, A2, m2, c2, s2, B2, j2, d2, rfl, x0, x1, x2, x3, hqx⟩ := qc_cell (HX9.out.below HBW.out) (k := k) (by simpa using hlt)
              obtain ⟨by', oy, t3, A3, m3, c3, s3, B3, j3, d3, rfl, g0, g1, g2, g3, hqy⟩ := qc_cell (HY9.out.below HBW.out) (k := k) (by simpa using hlt)
              rw [List.getElem_map] at hqx
              rw [List.getElem_replicate] at hqy
              have hcv := HV.out.2 L[k] (List.getElem_mem _)
              obtain ⟨cv, hcvd⟩ : ∃ cv, cv = L[k] := ⟨_, rfl⟩
              rw [← hcvd] at y0 hv hqx hcv
              obtain ⟨p, hp⟩ : ∃ p, p = qtySum cv := ⟨_, rfl⟩
              have hpb := qtySum_in hcv
              rw [tot_qty] at hqx
              rw [← hp] at hpb hqx
              obtain ⟨h3, h4⟩ := hpb
              have HP : Hid (sumE cv = p) := Lib.hid (by rw [hp]; exact sumE_valid hcv)
              have HVC := Lib.hid (hv.drew.mono (fun _ _ _ => trivial))
              have HQX := Lib.hid (qc_qin hqx (fits_int (by omega))).drew
              have HQY := Lib.hid (qc_qin hqy (k := 1) (fits_int (z := 0) (by decide))).drew
              have a0 : wr.drew.cell? ⟨b, off + k, none⟩ = some (.slice A' (List.length cv) c') := y0
              have x0 : wr.drew.cell? ⟨bx, ox + k * 4, none⟩ = some (.bool t2) := x0
              have x1 : wr.drew.cell? ⟨bx, ox + k * 4 + 1, none⟩ = some (.slice A2 m2 c2) := x1
              have x2 : wr.drew.cell? ⟨bx, ox + k * 4 + 2, none⟩ = some (.bool s2) := x2
              have x3 : wr.drew.cell? ⟨bx, ox + k * 4 + 3, none⟩ = some (.slice B2 j2 d2) := x3
              have g0 : wr.drew.cell? ⟨by', oy + k * 4, none⟩ = some (.bool t3) := g0
              have g1 : wr.drew.cell? ⟨by', oy + k * 4 + 1, none⟩ = some (.slice A3 m3 c3) := g1
              have g2 : wr.drew.cell? ⟨by', oy + k * 4 + 2, none⟩ = some (.bool s3) := g2
              have g3 : wr.drew.cell? ⟨by', oy + k * 4 + 3, none⟩ = some (.slice B3 j3 d3) := g3
              have hk0 : (0 : Int) ≤ (k : Int) := by omega
              have hk1 : (k : Int) < (L.length : Int) := by omega
              clear hqx hqy hcv hcvd hp hv y0
              go_wp2_with fail
              go_region_held3 (fun w' => w'.cell? ⟨b, off + k, none⟩ = some (.slice A' (List.length cv) c') ∧ w'.cell? ⟨bx, ox + k * 4, none⟩ = some (.bool t2) ∧ w'.cell? ⟨bx, ox + k * 4 + 1, none⟩ = some (.slice A2 m2 c2) ∧ w'.cell? ⟨bx, ox + k * 4 + 2, none⟩ = some (.bool s2) ∧ w'.cell? ⟨bx, ox + k * 4 + 3, none⟩ = some (.slice B2 j2 d2) ∧
                  w'.cell? ⟨by', oy + k * 4, none⟩ = some (.bool t3) ∧ w'.cell? ⟨by', oy + k * 4 + 1, none⟩ = some (.slice A3 m3 c3) ∧ w'.cell? ⟨by', oy + k * 4 + 2, none⟩ = some (.bool s3) ∧ w'.cell? ⟨by', oy + k * 4 + 3, none⟩ = some (.slice B3 j3 d3))
                (first | with_reducible exact ⟨a0, x0, x1, x2, x3, g0, g1, g2, g3⟩ | with_reducible exact ⟨k0, k1, k2, k3, k4, k5, k6, k7, k8⟩ | go_keep)
                (first
                  | (go_at_call 9; refine (sum_calls AnyB _ _ _ cv _ (by exact HVC.out)).mono ?_; rintro e w10 ⟨hb, he⟩; rw [HP.out] at he; subst he; have k0 := cell_below hb a0; have k1 := cell_below hb x0; have k2 := cell_below hb x1; have k3 := cell_below hb x2; have k4 := cell_below hb x3; have k5 := cell_below hb g0; have k6 := cell_below hb g1; have k7 := cell_below hb g2; have k8 := cell_below hb g3; have HB10 := Lib.hid hb; clear hb)
                  | (go_at_call 11; refine (ffrom_calls p _ ⟨by omega, by omega⟩).mono ?_; rintro e w11 ⟨hb, r11, rfl, hr11⟩; obtain ⟨t5, A5, m5, c5, s5, B5, j5, d5, rfl, Z11⟩ := hr11.open; have k0 := cell_below hb k0; have k1 := cell_below hb k1; have k2 := cell_below hb k2; have k3 := cell_below hb k3; have k4 := cell_below hb k4; have k5 := cell_below hb k5; have k6 := cell_below hb k6; have k7 := cell_below hb k7; have k8 := cell_below hb k8; have HB11 := Lib.hid (below_next HB10.out hb); clear hb hr11)
                  | (go_at_call 14; refine (fequal_calls _ _ (p : Rat) (p : Rat) 1 _ (by exact HQX.out.below HB11.out) (by exact ((Z11.out.qin (fits_int (by omega))).any)) (by omega) (by omega)).mono ?_; rintro e w12 ⟨hb, he⟩; rw [decide_eq_true rfl] at he; subst he; have k0 := cell_below hb k0; have k1 := cell_below hb k1; have k2 := cell_below hb k2; have k3 := cell_below hb k3; have k4 := cell_below hb k4; have k5 := cell_below hb k5; have k6 := cell_below hb k6; have k7 := cell_below hb k7; have k8 := cell_below hb k8; have HB12 := Lib.hid (below_next HB11.out hb); clear hb)
                  | (go_at_call 15; refine (fsign_calls _ 0 1 _ (by exact HQY.out.below HB12.out) (by omega) (by omega)).mono ?_; rintro e w13 ⟨hb, he⟩; rw [show cmpQ 0 0 = 0 from by unfold cmpQ; simp] at he; subst he; have k0 := cell_below hb k0; have k1 := cell_below hb k1; have k2 := cell_below hb k2; have k3 := cell_below hb k3; have k4 := cell_below hb k4; have k5 := cell_below hb k5; have k6 := cell_below hb k6; have k7 := cell_below hb k7; have k8 := cell_below hb k8; have HB13 := Lib.hid (below_next (below_drew HBW.out) (below_next HB12.out hb)); clear hb))
              clear a0 x0 x1 x2 x3 g0 g1 g2 g3 k0 k1 k2 k3 k4 k5 k6 k7 k8
              go_wp2
              go_roundw
              case rel => exact ⟨k + 1, hlt, by go_num, HB13.out⟩
              case measure => simp [intOf]; omega
            · obtain rfl : k = L.length := by omega
              go_wp2
              go_ret
              exact ⟨below_next HBB.out HBW.out, rfl⟩
    · have hse : (se == 0) = false := by rw [beq_eq_false_iff_ne]; exact hs0
      clear hs0 HS
      go_wp2
      go_ret
      exact ⟨HB4.out, rfl⟩
#print axioms cpl_calls
end Go.Proofs.YtefgadfcgdjboaaGreat
