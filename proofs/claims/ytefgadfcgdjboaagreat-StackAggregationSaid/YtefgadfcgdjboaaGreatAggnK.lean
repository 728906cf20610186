/- StackAggregation: the walk. The law returns true, whatever the curves and the price. No condition. -/
import Derived.Test.YtefgadfcgdjboaaGreatK10
namespace Go.Proofs.YtefgadfcgdjboaaGreat
set_option linter.unusedVariables false
set_option linter.unusedSimpArgs false
open Go.RowKit

theorem one_q {W : World} {b c : Nat} {e : TypeId} {fr : Nat × Nat} {v0 v1 v2 v3 : Value} {x : RawQ} (hh : W.heap[b]? = some (.cells #[v0, v1, v2, v3] e fr)) (h1 : Kd.q.rel AnyB W x [v0, v1, v2, v3]) (hc : 1 ≤ c) : Row Kd.q AnyB W (.slice (some ⟨b, 0, none⟩) 1 c) [x] :=
  Row.blk Kd.q [x] [[v0, v1, v2, v3]] hh rfl rfl (fun j hj hj' => by
    match j, hj with
    | 0, _ => exact h1) trivial rfl hc (by simp)
theorem sum_take' {f : Crv → Int} {L : List Crv} {k : Nat} (hk : k < L.length) : ((L.take (k + 1)).map f).sum = ((L.take k).map f).sum + f L[k] := by
  rw [List.take_succ_eq_append_getElem hk, List.map_append, List.sum_append]; simp
theorem wants_le {up : Bool} {q : Rat} {L : List Crv} (h : ∀ c ∈ L, curveE (afterOf up) c = 0) : ∀ k, k ≤ L.length → 0 ≤ ((L.take k).map (leastI up q)).sum ∧ ((L.take k).map (leastI up q)).sum ≤ 3000000 * k ∧ 0 ≤ ((L.take k).map (mostI up q)).sum ∧ ((L.take k).map (mostI up q)).sum ≤ 3000000 * k
  | 0, _ => by simp
  | k + 1, hk => by
    obtain ⟨a, b, c, d⟩ := wants_le (q := q) h k (by omega)
    have h1 := curveE_in (h L[k] (List.getElem_mem _))
    have h2 := want_le (up := up) (l := q) h1.2.2 L[k].length (Nat.le_refl _)
    rw [List.take_length] at h2
    rw [sum_take' (by omega), sum_take' (by omega)]
    have h3 := h1.2.1
    omega
theorem pairs_le {up : Bool} {q : Rat} : ∀ {S : List Lv}, (∀ x ∈ S, 0 ≤ x.2.1 ∧ x.2.1 ≤ 16000000) → 0 ≤ leastI up q (pairsS S) ∧ leastI up q (pairsS S) ≤ 16000000 * S.length ∧ 0 ≤ mostI up q (pairsS S) ∧ mostI up q (pairsS S) ≤ 16000000 * S.length
  | [], _ => by simp [pairsS, leastI, mostI]
  | x :: S, h => by
    have h1 := h x (by simp)
    obtain ⟨a, b, c, d⟩ := pairs_le (up := up) (q := q) (S := S) (fun y hy => h y (List.mem_cons_of_mem _ hy))
    have e : pairsS (x :: S) = (x.2.1, x.1) :: pairsS S := rfl
    rw [e, leastI_cons, mostI_cons]
    simp only [List.length_cons]
    split <;> split <;> omega

set_option maxRecDepth 100000 in
set_option maxHeartbeats 4000000 in
theorem aggn_calls (A : Option Addr) (n c : Nat) (L : List Crv) (bids : Bool) (x : RawQ) (t0 : Bool) (A0 : Option Addr) (m0 c0 : Nat) (s0 : Bool) (B0 : Option Addr) (j0 d0 : Nat) (w : World) (h : Row Kd.curve AnyB w (.slice A n c) L)
    (hx : Kd.q.rel AnyB w x [.bool t0, .slice A0 m0 c0, .bool s0, .slice B0 j0 d0]) :
    Calls Tryz.prog 4 #[.slice A n c, .bool bids, .agg #[.bool t0, .slice A0 m0 c0, .bool s0, .slice B0 j0 d0]] w fun e w' => Below w.heap.size w w' ∧ e = .returned (.bool true) := by
  obtain rfl := h.len
  obtain ⟨W, hW, g0, hB, hs⟩ := one_box w (.cells #[.bool t0, .slice A0 m0 c0, .bool s0, .slice B0 j0 d0] 38)
  have hm := h.small
  have G0 := Lib.hid g0
  have HB := Lib.hid hB
  have HR := Lib.hid (h.below hB)
  have HX := Lib.hid (Kd.q.below hx hB)
  have a0 : W.cell? ⟨w.heap.size, 0, none⟩ = some (.bool t0) := hcell g0 0 rfl
  have a1 : W.cell? ⟨w.heap.size, 1, none⟩ = some (.slice A0 m0 c0) := hcell g0 1 rfl
  have a2 : W.cell? ⟨w.heap.size, 2, none⟩ = some (.bool s0) := hcell g0 2 rfl
  have a3 : W.cell? ⟨w.heap.size, 3, none⟩ = some (.slice B0 j0 d0) := hcell g0 3 rfl
  clear h hx g0 hB hs
  go_enter Tryz.func4, Tryz.ntmps4
  obtain ⟨lg, hlg⟩ : ∃ lg, lg = longP L := ⟨_, rfl⟩
  have HLG := Lib.hid hlg
  cases lg with
  | true =>
    clear hlg
    go_wp2_with fail
    clear hW
    refine (long_calls AnyB _ _ _ L _ HR.out).mono ?_
    rintro e w1 ⟨rfl, rfl⟩
    rw [← HLG.out]
    go_wp2_with fail
    refine (awake_calls _).mono ?_
    rintro e w2 ⟨hb2, rfl⟩
    have HB2 := Lib.hid (below_next HB.out hb2)
    clear hb2
    go_wp2
    go_ret
    exact ⟨HB2.out, rfl⟩
  | false =>
    clear hlg
    obtain ⟨lq, hlq⟩ : ∃ lq, lq = qlongP [x] := ⟨_, rfl⟩
    have HLQ := Lib.hid hlq
    go_wp2_with fail
    clear hW
    refine (long_calls AnyB _ _ _ L _ HR.out).mono ?_
    rintro e w1 ⟨hw1, rfl⟩
    rw [← HLG.out]
    subst hw1
    clear hlq
    go_wp2_with fail
    refine (qlong_calls AnyB _ _ _ [x] _ (one_q (alloc_last rfl) (Kd.q.below HX.out (below_alloc _ _)) (by simp))).mono ?_
    rintro e w2 ⟨hw2, rfl⟩
    rw [← HLQ.out]
    subst hw2
    cases lq with
    | true =>
      go_wp2_with fail
      refine (awake_calls _).mono ?_
      rintro e w3 ⟨hb3, rfl⟩
      have HB3 := Lib.hid (below_next HB.out (below_next (below_alloc _ _) hb3))
      clear hb3
      go_wp2
      go_ret
      exact ⟨HB3.out, rfl⟩
    | false =>
      go_wp2_with fail
      refine (awake_calls _).mono ?_
      rintro e w3 ⟨hb3, rfl⟩
      have HB3 := Lib.hid (below_next (below_alloc _ _) hb3)
      have HR3 := Lib.hid (HR.out.below HB3.out)
      have HX3 := Lib.hid (Kd.q.below HX.out HB3.out)
      have G3 := Lib.hid (heap_below HB3.out G0.out)
      clear hb3 a0 a1 a2 a3
      obtain ⟨s, hs⟩ : ∃ s, s = stackedR bids L := ⟨_, rfl⟩
      obtain ⟨S, se⟩ := s
      have HS := Lib.hid hs
      clear hs
      go_wp2_with fail
      refine (stacked_calls _ _ _ _ L bids _ HR3.out).mono ?_
      rintro e w4 ⟨hb4, v4, rfl, hv4⟩
      rw [← HS.out] at hv4 ⊢
      simp only at hv4
      obtain ⟨A4, c4, rfl, -⟩ := hv4.form
      have HB4 := Lib.hid (below_next HB3.out hb4)
      have HV4 : Hid (Row Kd.level AnyB w4 (.slice A4 S.length c4) S) := Lib.hid (hv4.mono fun _ _ _ => trivial)
      have HR4 := Lib.hid (HR3.out.below hb4)
      have HX4 := Lib.hid (Kd.q.below HX3.out hb4)
      have G4 := Lib.hid (heap_below hb4 G3.out)
      clear hb4 hv4
      by_cases hs0 : se = 0
      · have hmS : mergeR (!bids) L = (S, (mergeR (!bids) L).2.1, se) := by
          have h1 := HS.out
          unfold stackedR at h1
          simp only [Prod.mk.injEq] at h1
          rw [h1.1, h1.2]
        have hv : Valid (!bids) L := mergeR_ok.1 (by rw [hmS]; exact hs0)
        rw [mergeR_valid hv] at hmS
        simp only [Prod.mk.injEq] at hmS
        obtain ⟨q, hqd⟩ : ∃ q, q = qv x := ⟨_, rfl⟩
        have hq6 := qlongP_not (HLQ.out.symm) x (by simp)
        have HQ4 : Hid (QIn (fun _ _ => True) w4 (.agg #[.bool t0, .slice A0 m0 c0, .bool s0, .slice B0 j0 d0]) q 6) := Lib.hid (by rw [hqd]; exact qin_of HX4.out hq6.1 hq6.2)
        have hSd : S = stackOf (!bids) L := hmS.1.symm
        have hagg := agg_law (!bids) L q
        rw [← hSd] at hagg
        have HAGG := Lib.hid hagg
        have hck := check_ok (check_stack hv)
        rw [← hSd] at hck
        have HLS : Hid (S.length ≤ 48 ∧ ∀ x ∈ S, LvOk x (lvAt S 0).2.2.length) := Lib.hid hck
        have HV := Lib.hid hv
        have hL16 := hv.1
        subst hs0
        clear hmS hv hqd hq6 hSd hagg hck HS
        go_wp2_with fail
        go_loopw [9, 10, 11] (fun a b i wr => ∃ (k : Nat) (u v : Int), k ≤ L.length ∧ a = .int .i64 u ∧ b = .int .i64 v ∧ i = .int .i64 k ∧ Hid (u = ((L.take k).map (leastI (!bids) q)).sum) ∧ Hid (v = ((L.take k).map (mostI (!bids) q)).sum) ∧ Hid (Below w4.heap.size w4 wr))
          (fun _ _ i _ => L.length - (intOf i).toNat)
        case atStart => exact ⟨0, 0, 0, Nat.zero_le _, rfl, rfl, rfl, rfl, rfl, Below.refl _ _⟩
        case round =>
          obtain ⟨k, u, v, hk, rfl, rfl, rfl, HU, HVV, HBW⟩ := hrel
          by_cases hlt : k < L.length
          · obtain ⟨b, off, A', c', rfl, y0, hv⟩ := curve_cell (HR4.out.below HBW.out) hlt
            have hu1 := sum_take' (f := leastI (!bids) q) hlt
            have hv1 := sum_take' (f := mostI (!bids) q) hlt
            have hle := wants_le (q := q) HV.out.2 k hk
            have hle1 := wants_le (q := q) HV.out.2 (k + 1) hlt
            rw [hu1, hv1] at hle1
            rw [← HU.out, ← HVV.out] at hle hle1
            rw [← HU.out] at hu1
            rw [← HVV.out] at hv1
            have hcv := HV.out.2 L[k] (List.getElem_mem _)
            obtain ⟨cv, hcvd⟩ : ∃ cv, cv = L[k] := ⟨_, rfl⟩
            rw [← hcvd] at y0 hv hu1 hv1 hle1 hcv
            obtain ⟨p, hp⟩ : ∃ p, p = leastI (!bids) q cv := ⟨_, rfl⟩
            obtain ⟨r, hr⟩ : ∃ r, r = mostI (!bids) q cv := ⟨_, rfl⟩
            rw [← hp] at hu1 hle1
            rw [← hr] at hv1 hle1
            have HW1 : Hid (wantR (!bids) q cv = (p, r, 0)) := Lib.hid (by unfold wantR; rw [if_pos hcv, hp, hr])
            obtain ⟨h1, h2, h3, h4⟩ := hle
            obtain ⟨h5, h6, h7, h8⟩ := hle1
            have hwu : IntKind.i64.wrap (u + p) = u + p := IntWalk.i64_in _ ⟨by omega, by omega⟩
            have hwv : IntKind.i64.wrap (v + r) = v + r := IntWalk.i64_in _ ⟨by omega, by omega⟩
            have HU1 := Lib.hid hu1
            have HV1 := Lib.hid hv1
            have HVC := Lib.hid hv
            have hg := heap_drew (heap_below HBW.out G4.out)
            have a0 : wr.drew.cell? ⟨w.heap.size, 0, none⟩ = some (.bool t0) := hcell hg 0 rfl
            have a1 : wr.drew.cell? ⟨w.heap.size, 1, none⟩ = some (.slice A0 m0 c0) := hcell hg 1 rfl
            have a2 : wr.drew.cell? ⟨w.heap.size, 2, none⟩ = some (.bool s0) := hcell hg 2 rfl
            have a3 : wr.drew.cell? ⟨w.heap.size, 3, none⟩ = some (.slice B0 j0 d0) := hcell hg 3 rfl
            have z0 : wr.drew.cell? ⟨b, off + k, none⟩ = some (.slice A' (List.length cv) c') := y0
            have hk0 : (0 : Int) ≤ (k : Int) := by omega
            have hk1 : (k : Int) < (L.length : Int) := by omega
            have HQR := Lib.hid (HQ4.out.below HBW.out).drew
            have HVD := Lib.hid (hv.drew.mono (fun _ _ _ => trivial))
            clear hu1 hv1 hcv hcvd hp hr hv hg y0
            go_wp2_with fail
            go_region_held3 (fun w' => w'.cell? ⟨w.heap.size, 0, none⟩ = some (.bool t0) ∧ w'.cell? ⟨w.heap.size, 1, none⟩ = some (.slice A0 m0 c0) ∧ w'.cell? ⟨w.heap.size, 2, none⟩ = some (.bool s0) ∧ w'.cell? ⟨w.heap.size, 3, none⟩ = some (.slice B0 j0 d0) ∧ w'.cell? ⟨b, off + k, none⟩ = some (.slice A' (List.length cv) c'))
              (first | with_reducible exact ⟨a0, a1, a2, a3, z0⟩ | with_reducible exact ⟨k0, k1, k2, k3, k4⟩ | go_keep)
              ((go_at_call 17; refine (supply_calls AnyB _ _ _ cv _ q 6 _ (by exact HVD.out) (by exact HQR.out) (by omega) (by omega)).mono ?_; rintro e w5 ⟨hb5, rfl⟩; have k0 := cell_below hb5 a0; have k1 := cell_below hb5 a1; have k2 := cell_below hb5 a2; have k3 := cell_below hb5 a3; have k4 := cell_below hb5 z0; have HB5 := Lib.hid (below_next (below_drew HBW.out) hb5); have HQ5 := Lib.hid (HQR.out.below hb5); have HV5 := Lib.hid (HVD.out.below hb5)))
            cases bids with
            | false =>
              have hw1 : wantR true q cv = (p, r, 0) := HW1.out
              rw [hw1]
              clear hb5 hw1 a0 a1 a2 a3 z0 k0 k1 k2 k3 k4
              go_wp2
              go_roundw
              case rel => exact ⟨k + 1, u + p, v + r, hlt, rfl, rfl, by go_num, HU1.out.symm, HV1.out.symm, HB5.out⟩
              case measure => simp [intOf]; omega
            | true =>
              have hw1 : wantR false q cv = (p, r, 0) := HW1.out
              clear a0 a1 a2 a3 z0
              have l0 : w5.drew.cell? ⟨w.heap.size, 0, none⟩ = some (.bool t0) := k0
              have l1 : w5.drew.cell? ⟨w.heap.size, 1, none⟩ = some (.slice A0 m0 c0) := k1
              have l2 : w5.drew.cell? ⟨w.heap.size, 2, none⟩ = some (.bool s0) := k2
              have l3 : w5.drew.cell? ⟨w.heap.size, 3, none⟩ = some (.slice B0 j0 d0) := k3
              have l4 : w5.drew.cell? ⟨b, off + k, none⟩ = some (.slice A' (List.length cv) c') := k4
              have HQ5d := Lib.hid HQ5.out.drew
              have HV5d := Lib.hid HV5.out.drew
              have HW1' := Lib.hid hw1
              clear hb5 hw1 k0 k1 k2 k3 k4
              go_wp2_with fail
              go_region_held3 (fun w' => w'.cell? ⟨w.heap.size, 0, none⟩ = some (.bool t0) ∧ w'.cell? ⟨w.heap.size, 1, none⟩ = some (.slice A0 m0 c0) ∧ w'.cell? ⟨w.heap.size, 2, none⟩ = some (.bool s0) ∧ w'.cell? ⟨w.heap.size, 3, none⟩ = some (.slice B0 j0 d0) ∧ w'.cell? ⟨b, off + k, none⟩ = some (.slice A' (List.length cv) c'))
                (first | with_reducible exact ⟨l0, l1, l2, l3, l4⟩ | with_reducible exact ⟨i0, i1, i2, i3, i4⟩ | go_keep)
                ((go_at_call 18; refine (demand_calls AnyB _ _ _ cv _ q 6 _ (by exact HV5d.out) (by exact HQ5d.out) (by omega) (by omega)).mono ?_; rintro e w6 ⟨hb6, rfl⟩; have i0 := cell_below hb6 l0; have i1 := cell_below hb6 l1; have i2 := cell_below hb6 l2; have i3 := cell_below hb6 l3; have i4 := cell_below hb6 l4; have HB6 := Lib.hid (below_next (below_drew HB5.out) hb6); clear hb6))
              clear l0 l1 l2 l3 l4 i0 i1 i2 i3 i4
              have hw1 := HW1'.out
              rw [hw1]
              clear hw1
              go_wp2
              go_roundw
              case rel => exact ⟨k + 1, u + p, v + r, hlt, rfl, rfl, by go_num, HU1.out.symm, HV1.out.symm, HB6.out⟩
              case measure => simp [intOf]; omega
          · obtain rfl : k = L.length := by omega
            have hu2 : u = leastI (!bids) q (pairsS S) := by rw [HAGG.out.1, HU.out, List.take_length]
            have hv2 : v = mostI (!bids) q (pairsS S) := by rw [HAGG.out.2, HVV.out, List.take_length]
            have HU2 := Lib.hid hu2
            have HV2 := Lib.hid hv2
            have HVS := Lib.hid (HV4.out.below HBW.out)
            have HQS := Lib.hid (HQ4.out.below HBW.out)
            have GS := Lib.hid (heap_below HBW.out G4.out)
            have HBS := Lib.hid (below_next HB.out (below_next HB4.out HBW.out))
            have hS48 := HLS.out.1
            obtain ⟨wo, hwo⟩ : ∃ wo : World, wo = wr := ⟨_, rfl⟩
            rw [← hwo] at HVS HQS GS HBS ⊢
            clear hwo hu2 hv2 HU HVV HBW
            go_wp2_with fail
            go_loopw [9, 10, 15] (fun a b i wr => ∃ (k : Nat) (u v : Int), k ≤ S.length ∧ a = .int .i64 u ∧ b = .int .i64 v ∧ i = .int .i64 k ∧ Hid (u = leastI (!bids) q (pairsS (S.drop k))) ∧ Hid (v = mostI (!bids) q (pairsS (S.drop k))) ∧ Hid (Below wo.heap.size wo wr))
              (fun _ _ i _ => S.length - (intOf i).toNat)
            case atStart => exact ⟨0, u, v, Nat.zero_le _, rfl, rfl, rfl, HU2.out, HV2.out, Below.refl _ _⟩
            case round =>
              obtain ⟨k, u, v, hks, rfl, rfl, rfl, HU, HVV, HBW⟩ := hrel
              have hbu := pairs_le (up := !bids) (q := q) (S := S.drop k) (fun y hy => by
                have h1 := HLS.out.2 y (List.mem_of_mem_drop hy)
                exact ⟨Int.le_of_lt h1.pos, h1.top⟩)
              rw [← HU.out, ← HVV.out, List.length_drop] at hbu
              obtain ⟨g1, g2, g3, g4⟩ := hbu
              by_cases hlt : k < S.length
              · obtain ⟨b, off, Ap, cp, rfl, y0, y1, y2, -, -, -⟩ := level_cell (HVS.out.below HBW.out) hlt
                have hlo := HLS.out.2 (lvAt S k) (by rw [lvAt_eq hlt]; exact List.getElem_mem _)
                have hdrop : S.drop k = lvAt S k :: S.drop (k + 1) := by rw [List.drop_eq_getElem_cons hlt, lvAt_eq hlt]
                obtain ⟨⟨p, qq, l⟩, hxd⟩ : ∃ z, z = lvAt S k := ⟨_, rfl⟩
                rw [← hxd] at y0 y1 y2 hlo hdrop
                simp only at y0 y1 y2
                have hu1 : u = (if wayQ (!bids) p q < 0 then qq else 0) + leastI (!bids) q (pairsS (S.drop (k + 1))) := by rw [HU.out, hdrop]; rfl
                have hv1 : v = (if wayQ (!bids) p q ≤ 0 then qq else 0) + mostI (!bids) q (pairsS (S.drop (k + 1))) := by rw [HVV.out, hdrop]; rfl
                have hp0 := hlo.lo
                have hp1 := hlo.hi
                have hq0 := hlo.pos
                have hq1 := hlo.top
                simp only at hp0 hp1 hq0 hq1
                obtain ⟨z, hz⟩ : ∃ z, z = wayQ (!bids) p q := ⟨_, rfl⟩
                have hzin := way_in (!bids) p q
                rw [← hz] at hu1 hv1 hzin
                obtain ⟨g, hg⟩ : ∃ g, g = cmpQ (p : Rat) q := ⟨_, rfl⟩
                have hgin := cmpQ_in (p : Rat) q
                rw [← hg] at hgin
                have hzg : z = if bids then -g else g := by rw [hz, hg]; unfold wayQ; cases bids <;> rfl
                have HZG := Lib.hid hzg
                have HG := Lib.hid hg
                have HU1 := Lib.hid hu1
                have HV1 := Lib.hid hv1
                obtain ⟨hz0, hz1⟩ := hzin
                obtain ⟨hg0, hg1⟩ := hgin
                have hwu : IntKind.i64.wrap (u - qq) = u - qq := IntWalk.i64_in _ ⟨by omega, by omega⟩
                have hwv : IntKind.i64.wrap (v - qq) = v - qq := IntWalk.i64_in _ ⟨by omega, by omega⟩
                have hk0 : (0 : Int) ≤ (k : Int) := by omega
                have hk1 : (k : Int) < (S.length : Int) := by omega
                have hgg := heap_drew (heap_below HBW.out GS.out)
                have a0 : wr.drew.cell? ⟨w.heap.size, 0, none⟩ = some (.bool t0) := hcell hgg 0 rfl
                have a1 : wr.drew.cell? ⟨w.heap.size, 1, none⟩ = some (.slice A0 m0 c0) := hcell hgg 1 rfl
                have a2 : wr.drew.cell? ⟨w.heap.size, 2, none⟩ = some (.bool s0) := hcell hgg 2 rfl
                have a3 : wr.drew.cell? ⟨w.heap.size, 3, none⟩ = some (.slice B0 j0 d0) := hcell hgg 3 rfl
                have z0 : wr.drew.cell? ⟨b, off + k * 3, none⟩ = some (.int .i64 p) := y0
                have z1 : wr.drew.cell? ⟨b, off + k * 3 + 1, none⟩ = some (.int .i64 qq) := y1
                have HQX := Lib.hid (HQS.out.below HBW.out).drew
                clear hlo hdrop hxd hz hg hzg hu1 hv1 hgg y0 y1 y2
                go_wp2_with fail
                go_region_held3 (fun w' => w'.cell? ⟨w.heap.size, 0, none⟩ = some (.bool t0) ∧ w'.cell? ⟨w.heap.size, 1, none⟩ = some (.slice A0 m0 c0) ∧ w'.cell? ⟨w.heap.size, 2, none⟩ = some (.bool s0) ∧ w'.cell? ⟨w.heap.size, 3, none⟩ = some (.slice B0 j0 d0) ∧ w'.cell? ⟨b, off + k * 3, none⟩ = some (.int .i64 p) ∧ w'.cell? ⟨b, off + k * 3 + 1, none⟩ = some (.int .i64 qq))
                  (first | with_reducible exact ⟨a0, a1, a2, a3, z0, z1⟩ | with_reducible exact ⟨k0, k1, k2, k3, k4, k5⟩ | go_keep)
                  (first
                    | (go_at_call 11; refine (ffrom_calls p _ ⟨by omega, by omega⟩).mono ?_; rintro e w4' ⟨hb4, r4, rfl, hr4⟩; obtain ⟨t1, A1, m1, c1, s1, B1, j1, d1, rfl, Z4⟩ := hr4.open; have k0 := cell_below hb4 a0; have k1 := cell_below hb4 a1; have k2 := cell_below hb4 a2; have k3 := cell_below hb4 a3; have k4 := cell_below hb4 z0; have k5 := cell_below hb4 z1; have HB4' := Lib.hid hb4; clear hb4 hr4)
                    | (go_at_call 19; refine (fcmp_calls _ _ (p : Rat) q 6 _ (by exact ((Z4.out.qin (fits_int (by omega))).any.le (by omega))) (by exact HQX.out.below HB4'.out) (by omega) (by omega)).mono ?_; rintro e w5 ⟨hb5, he⟩; rw [← HG.out] at he; subst he; have k0 := cell_below hb5 k0; have k1 := cell_below hb5 k1; have k2 := cell_below hb5 k2; have k3 := cell_below hb5 k3; have k4 := cell_below hb5 k4; have k5 := cell_below hb5 k5; have HB5 := Lib.hid (below_next (below_drew HBW.out) (below_next HB4'.out hb5)); clear hb5))
                clear a0 a1 a2 a3 z0 z1 k0 k1 k2 k3
                cases bids with
                | false =>
                  have hgz : z = g := HZG.out
                  subst hgz
                  rcases Int.lt_trichotomy z 0 with hz | hz | hz
                  · have HUN : Hid (u - qq = leastI (!false) q (pairsS (S.drop (k + 1)))) := Lib.hid (by have h := HU1.out; rw [if_pos hz] at h; omega)
                    have HVN : Hid (v - qq = mostI (!false) q (pairsS (S.drop (k + 1)))) := Lib.hid (by have h := HV1.out; rw [if_pos (by omega)] at h; omega)
                    have hzl : z ≤ 0 := by omega
                    clear HU1 HV1
                    go_wp2
                    go_roundw
                    case rel => exact ⟨k + 1, u - qq, v - qq, hlt, rfl, rfl, by go_num, HUN.out, HVN.out, HB5.out⟩
                    case measure => simp [intOf]; omega
                  · have HUN : Hid (u = leastI (!false) q (pairsS (S.drop (k + 1)))) := Lib.hid (by have h := HU1.out; rw [if_neg (by omega)] at h; omega)
                    have HVN : Hid (v - qq = mostI (!false) q (pairsS (S.drop (k + 1)))) := Lib.hid (by have h := HV1.out; rw [if_pos (by omega)] at h; omega)
                    have hnl : ¬ z < 0 := by omega
                    have hzl : z ≤ 0 := by omega
                    clear HU1 HV1 hz
                    go_wp2
                    go_roundw
                    case rel => exact ⟨k + 1, u, v - qq, hlt, rfl, rfl, by go_num, HUN.out, HVN.out, HB5.out⟩
                    case measure => simp [intOf]; omega
                  · have HUN : Hid (u = leastI (!false) q (pairsS (S.drop (k + 1)))) := Lib.hid (by have h := HU1.out; rw [if_neg (by omega)] at h; omega)
                    have HVN : Hid (v = mostI (!false) q (pairsS (S.drop (k + 1)))) := Lib.hid (by have h := HV1.out; rw [if_neg (by omega)] at h; omega)
                    have hnl : ¬ z < 0 := by omega
                    have hzl : ¬ z ≤ 0 := by omega
                    clear HU1 HV1
                    go_wp2
                    go_roundw
                    case rel => exact ⟨k + 1, u, v, hlt, rfl, rfl, by go_num, HUN.out, HVN.out, HB5.out⟩
                    case measure => simp [intOf]; omega
                | true =>
                  have hneg : -g = z := HZG.out.symm
                  have hwz : IntKind.i64.wrap z = z := IntWalk.i64_in _ ⟨by omega, by omega⟩
                  rcases Int.lt_trichotomy z 0 with hz | hz | hz
                  · have HUN : Hid (u - qq = leastI (!true) q (pairsS (S.drop (k + 1)))) := Lib.hid (by have h := HU1.out; rw [if_pos hz] at h; omega)
                    have HVN : Hid (v - qq = mostI (!true) q (pairsS (S.drop (k + 1)))) := Lib.hid (by have h := HV1.out; rw [if_pos (by omega)] at h; omega)
                    have hzl : z ≤ 0 := by omega
                    clear HU1 HV1
                    go_wp2
                    go_roundw
                    case rel => exact ⟨k + 1, u - qq, v - qq, hlt, rfl, rfl, by go_num, HUN.out, HVN.out, HB5.out⟩
                    case measure => simp [intOf]; omega
                  · have HUN : Hid (u = leastI (!true) q (pairsS (S.drop (k + 1)))) := Lib.hid (by have h := HU1.out; rw [if_neg (by omega)] at h; omega)
                    have HVN : Hid (v - qq = mostI (!true) q (pairsS (S.drop (k + 1)))) := Lib.hid (by have h := HV1.out; rw [if_pos (by omega)] at h; omega)
                    have hnl : ¬ z < 0 := by omega
                    have hzl : z ≤ 0 := by omega
                    clear HU1 HV1 hz
                    go_wp2
                    go_roundw
                    case rel => exact ⟨k + 1, u, v - qq, hlt, rfl, rfl, by go_num, HUN.out, HVN.out, HB5.out⟩
                    case measure => simp [intOf]; omega
                  · have HUN : Hid (u = leastI (!true) q (pairsS (S.drop (k + 1)))) := Lib.hid (by have h := HU1.out; rw [if_neg (by omega)] at h; omega)
                    have HVN : Hid (v = mostI (!true) q (pairsS (S.drop (k + 1)))) := Lib.hid (by have h := HV1.out; rw [if_neg (by omega)] at h; omega)
                    have hnl : ¬ z < 0 := by omega
                    have hzl : ¬ z ≤ 0 := by omega
                    clear HU1 HV1
                    go_wp2
                    go_roundw
                    case rel => exact ⟨k + 1, u, v, hlt, rfl, rfl, by go_num, HUN.out, HVN.out, HB5.out⟩
                    case measure => simp [intOf]; omega
              · obtain rfl : k = S.length := by omega
                have hu0 : u = 0 := by rw [HU.out, List.drop_length]; rfl
                have hv0 : v = 0 := by rw [HVV.out, List.drop_length]; rfl
                subst hu0 hv0
                go_wp2
                go_ret
                exact ⟨below_next HBS.out HBW.out, rfl⟩
      · have hse : (se == 0) = false := by rw [beq_eq_false_iff_ne]; exact hs0
        clear hs0 HS
        go_wp2
        go_ret
        exact ⟨below_next HB.out HB4.out, rfl⟩
#print axioms aggn_calls
end Go.Proofs.YtefgadfcgdjboaaGreat
