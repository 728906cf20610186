/- StackPermutation: the walk. The law returns true, whatever the curves. No condition. -/
import Derived.Test.YtoiakikfehfklaaK7
import Derived.Test.YtoiakikfehfklaaK8
namespace Go.Proofs.Ytoiakikfehfklaa
set_option linter.unusedVariables false
set_option linter.unusedSimpArgs false
open Go.RowKit
theorem info_curve : (Try.prog.info? 25).map (fun i => (i.zero, i.size, i.bytes)) = some (some (.slice none 0 0), 1, 24) := by kernel_rfl

set_option maxRecDepth 100000 in
set_option maxHeartbeats 4000000 in
theorem perm_calls (A : Option Addr) (n c : Nat) (L : List Crv) (bids : Bool) (r : Nat) (hr : r < 256) (w : World) (h : Row Kd.curve AnyB w (.slice A n c) L) :
    Calls Try.prog 3 #[.slice A n c, .bool bids, .int .u8 r] w fun e w' => Below w.heap.size w w' ∧ e = .returned (.bool true) := by
  obtain rfl := h.len
  have hm := h.small
  have HR := Lib.hid h
  clear h
  go_enter Try.func3, Try.ntmps3
  obtain ⟨lg, hlg⟩ : ∃ lg, lg = longP L := ⟨_, rfl⟩
  have HLG := Lib.hid hlg
  cases lg with
  | true =>
    clear hlg
    go_wp2_with fail
    refine (long_calls AnyB _ _ _ L _ HR.out).mono ?_
    rintro e w1 ⟨rfl, rfl⟩
    rw [← HLG.out]
    go_wp2_with fail
    refine (awake_calls _).mono ?_
    rintro e w2 ⟨hb2, rfl⟩
    have HB2 := Lib.hid hb2
    clear hb2
    go_wp2
    go_ret
    exact ⟨HB2.out, rfl⟩
  | false =>
    clear hlg
    by_cases h0 : L.length = 0
    · have hl0 : ((L.length : Int) == 0) = true := by simp [h0]
      clear h0
      go_wp2_with fail
      refine (long_calls AnyB _ _ _ L _ HR.out).mono ?_
      rintro e w1 ⟨rfl, rfl⟩
      rw [← HLG.out]
      go_wp2_with fail
      refine (awake_calls _).mono ?_
      rintro e w2 ⟨hb2, rfl⟩
      have HB2 := Lib.hid hb2
      clear hb2
      go_wp2
      go_ret
      exact ⟨HB2.out, rfl⟩
    · have hl0 : ((L.length : Int) == 0) = false := by rw [beq_eq_false_iff_ne]; omega
      have hlp : (0 : Int) < (L.length : Int) := by omega
      go_wp2_with fail
      refine (long_calls AnyB _ _ _ L _ HR.out).mono ?_
      rintro e w1 ⟨rfl, rfl⟩
      rw [← HLG.out]
      go_wp2_with fail
      refine (awake_calls _).mono ?_
      rintro e w2 ⟨hb2, rfl⟩
      have HB2 := Lib.hid hb2
      have HR2 := Lib.hid (HR.out.below hb2).live
      clear hb2
      have hpos : 0 < L.length := by omega
      have HL40 : Hid (L.length ≤ 40) := Lib.hid (by
        have h1 := HLG.out
        unfold longP at h1
        have h2 : decide (40 < L.length) = false := by
          cases h3 : decide (40 < L.length) with
          | false => rfl
          | true => rw [h3] at h1; simp at h1
        simpa using h2)
      clear h0
      go_wp2_with fail
      go_loopw [7, 8] (fun out i wr => ∃ k : Nat, k ≤ L.length ∧ i = .int .i64 k ∧ Hid (Below w2.heap.size w2 wr) ∧ Hid (Own Kd.curve 25 w2.heap.size (fun k _ => k < w2.heap.size) wr out ((rotL L r).take k)))
        (fun _ i _ => L.length - (intOf i).toNat)
      case atStart => exact ⟨0, Nat.zero_le _, rfl, Below.refl _ _, Own.nil _ _ _ _ _⟩
      case round =>
        obtain ⟨k, hk, rfl, HBW, HOWN⟩ := hrel
        obtain ⟨Ao, co, hAo⟩ := HOWN.out.form
        have hRl := rotL_len L r
        by_cases hlt : k < L.length
        · have hlen : ((rotL L r).take k).length = k := by rw [List.length_take]; omega
          rw [hlen] at hAo
          subst hAo
          obtain ⟨j, hj⟩ : ∃ j, j = (k + r) % L.length := ⟨_, rfl⟩
          have hjl : j < L.length := by rw [hj]; exact Nat.mod_lt _ hpos
          obtain ⟨b, off, A', c', rfl, y0, hv⟩ := curve_cell (HR2.out.below HBW.out) hjl
          have hts := List.take_succ_eq_append_getElem (l := rotL L r) (i := k) (by rw [hRl]; exact hlt)
          have hg : (rotL L r)[k]'(by rw [hRl]; exact hlt) = L[j] := by rw [rotL_get hlt]; simp only [hj]
          rw [hg] at hts
          obtain ⟨cv, hcv⟩ : ∃ cv, cv = L[j] := ⟨_, rfl⟩
          rw [← hcv] at hts hv y0
          have HTS := Lib.hid hts
          have hx : ((k : Int) + (r : Int)) % (L.length : Int) = (j : Int) := by rw [hj]; push_cast; rfl
          have hk0 : (0 : Int) ≤ (k : Int) := by omega
          have hk1 : (k : Int) < (L.length : Int) := by omega
          have hj0 : (0 : Int) ≤ (j : Int) := by omega
          have hj1 : (j : Int) < (L.length : Int) := by omega
          have hwr : IntKind.i64.wrap ((k : Int) + (r : Int)) = (k : Int) + (r : Int) := IntWalk.i64_in _ ⟨by omega, by omega⟩
          have hwj : IntKind.i64.wrap (j : Int) = (j : Int) := IntWalk.i64_in _ ⟨by omega, by omega⟩
          have HJ := Lib.hid hj
          have HV := Lib.hid hv
          clear hts hg hcv hlen hj hv hRl
          go_wp2_with (at_builtin; refine wp_append Kd.curve rfl _ _ 22 rfl 25 _ 24 Try.underlying22 info_curve rfl (by decide) w2.heap.size (fun k _ => k < w2.heap.size) _ ((rotL L r).take k) rfl ?hown _ [cv] rfl ?hel ?hby ?hba ?_)
          case hown => exact HOWN.out.below (below_alloc _ _)
          case hel => exact Elems.one (cs := #[.slice A' (List.length cv) c']) ⟨_, rfl, (HV.out.below (below_alloc _ _)).mono (fun _ _ h => h.2.1)⟩ (alloc_last rfl)
          case hby => have := HL40.out; simp; omega
          case hba => have := HBW.out.size; simp; omega
          intro v3 w3 hown3 hg3 hat3
          have HBR : Hid (Below w2.heap.size w2 w3) := Lib.hid (below_grown (bd_alloc0 HBW.out _) hg3 (fun j hj => (HOWN.out.base_le j hj).1))
          have HO3 : Hid (Own Kd.curve 25 w2.heap.size (fun k _ => k < w2.heap.size) w3 v3 ((rotL L r).take (k + 1))) := Lib.hid (by
            rw [HTS.out]
            exact hown3.mono (fun _ _ h => h.1) (fun i _ hi e => by have := (hown3.base_le i e).1; omega))
          clear hown3 hg3 hat3
          go_wp2
          go_roundw
          case rel => exact ⟨k + 1, hlt, by go_num, HBR.out, HO3.out⟩
          case measure => simp [intOf]; omega
        · have hkk : (rotL L r).take k = rotL L r := List.take_of_length_le (by rw [hRl]; omega)
          rw [hkk] at hAo HOWN
          rw [hRl] at hAo
          subst hAo
          obtain rfl : k = L.length := by omega
          obtain ⟨s, hs⟩ : ∃ s, s = stackedR bids L := ⟨_, rfl⟩
          obtain ⟨t, ht⟩ : ∃ t, t = stackedR bids (rotL L r) := ⟨_, rfl⟩
          obtain ⟨S, se⟩ := s
          obtain ⟨T, te⟩ := t
          have HS := Lib.hid hs
          have HT := Lib.hid ht
          have hRM := HOWN.out.row
          have HRM := Lib.hid hRM
          clear hkk hs ht hRM hRl
          go_wp2_with fail
          refine (stacked_calls _ _ _ _ L bids _ (HR2.out.below HBW.out)).mono ?_
          rintro e w3 ⟨hb3, v3, rfl, hv3⟩
          rw [← HS.out] at hv3 ⊢
          simp only at hv3
          obtain ⟨A3, c3, rfl, _⟩ := hv3.form
          have HB3 := Lib.hid (below_next HBW.out hb3)
          have HRM3 := Lib.hid (HRM.out.below hb3)
          have HV3 : Hid (Row Kd.level AnyB w3 (.slice A3 S.length c3) S) := Lib.hid (hv3.mono fun _ _ _ => trivial)
          clear hb3 hv3
          go_wp2_with fail
          refine (stacked_calls _ _ _ _ (rotL L r) bids _ HRM3.out).mono ?_
          rintro e w4 ⟨hb4, v4, rfl, hv4⟩
          rw [← HT.out] at hv4 ⊢
          simp only at hv4
          obtain ⟨A4, c4, rfl, _⟩ := hv4.form
          have HB4 := Lib.hid (below_next HB3.out hb4)
          have HV3 := Lib.hid (HV3.out.below hb4)
          have HV4 : Hid (Row Kd.level AnyB w4 (.slice A4 T.length c4) T) := Lib.hid (hv4.mono fun _ _ _ => trivial)
          clear hb4 hv4
          have hlaw : (se = 0 ↔ te = 0) ∧ S.length = T.length ∧ ∀ k (h : k < S.length) (h' : k < T.length), S[k].1 = T[k].1 ∧ S[k].2.1 = T[k].2.1 ∧ S[k].2.2.length = L.length ∧ T[k].2.2.length = L.length ∧
              ∀ m (_ : m < L.length) (h1 : (m + r) % L.length < S[k].2.2.length) (h2 : m < T[k].2.2.length), T[k].2.2[m] = S[k].2.2[(m + r) % L.length] := by
            have h1 := HS.out
            have h2 := HT.out
            unfold stackedR at h1 h2
            simp only [Prod.mk.injEq] at h1 h2
            exact rot_law (!bids) L r S T (mergeR (!bids) L).2.1 (mergeR (!bids) (rotL L r)).2.1 se te (by rw [h1.1, h1.2]) (by rw [h2.1, h2.2])
          obtain ⟨he0, hTL, hlv⟩ := hlaw
          rw [← hTL] at HV4 ⊢
          have hbb : (te == 0) = (se == 0) := by
            by_cases h : se = 0
            · simp [h, he0.1 h]
            · have h' : te ≠ 0 := fun e => h (he0.2 e)
              have e1 : (se == 0) = false := by rw [beq_eq_false_iff_ne]; exact h
              have e2 : (te == 0) = false := by rw [beq_eq_false_iff_ne]; exact h'
              rw [e1, e2]
          have HLV : Hid (∀ k, k < S.length → (lvAt S k).1 = (lvAt T k).1 ∧ (lvAt S k).2.1 = (lvAt T k).2.1 ∧ (lvAt S k).2.2.length = L.length ∧ (lvAt T k).2.2.length = L.length ∧
              ∀ m (_ : m < L.length) (h1 : (m + r) % L.length < (lvAt S k).2.2.length) (h2 : m < (lvAt T k).2.2.length), (lvAt T k).2.2[m] = (lvAt S k).2.2[(m + r) % L.length]) := Lib.hid (fun k hk => by
            have hk' : k < T.length := by omega
            have h1 := hlv k hk hk'
            rw [← lvAt_eq hk, ← lvAt_eq hk'] at h1
            exact h1)
          have HTL := Lib.hid hTL
          have HSM := Lib.hid HV3.out.small
          clear he0 hTL hlv HS HT HRM HRM3
          go_wp2_with fail
          clear hbb
          go_loopw [13] (fun i wr => ∃ k : Nat, k ≤ S.length ∧ i = .int .i64 k ∧ Hid (Below w4.heap.size w4 wr))
            (fun i _ => S.length - (intOf i).toNat)
          case atStart => exact ⟨0, Nat.zero_le _, rfl, Below.refl _ _⟩
          case round =>
            obtain ⟨k, hks, rfl, HBX⟩ := hrel
            by_cases hlts : k < S.length
            · obtain ⟨b3, off3, A5, c5, rfl, z0, z1, z2, _, _, z3⟩ := level_cell HV3.out hlts
              have hltt : k < T.length := by rw [← HTL.out]; exact hlts
              obtain ⟨b4, off4, A6, c6, rfl, v0, v1, v2, _, _, v3⟩ := level_cell (s := T) (n := T.length) (by rw [← HTL.out]; exact HV4.out) hltt
              obtain ⟨hp, hq, hl1, hl2, hpm0⟩ := HLV.out k hlts
              have hpm : ∀ m, m < L.length → (lvAt T k).2.2[m]? = (lvAt S k).2.2[(m + r) % L.length]? := fun m hm => by
                have h1 : (m + r) % L.length < (lvAt S k).2.2.length := by rw [hl1]; exact Nat.mod_lt _ hpos
                have h2 : m < (lvAt T k).2.2.length := by omega
                rw [List.getElem?_eq_getElem h1, List.getElem?_eq_getElem h2, hpm0 m hm h1 h2]
              clear hpm0
              rw [← hp] at v0
              rw [← hq] at v1
              obtain ⟨p, hpd⟩ : ∃ p, p = (lvAt S k).1 := ⟨_, rfl⟩
              obtain ⟨q, hqd⟩ : ∃ q, q = (lvAt S k).2.1 := ⟨_, rfl⟩
              obtain ⟨l, hld⟩ : ∃ l, l = (lvAt S k).2.2 := ⟨_, rfl⟩
              obtain ⟨l', hld'⟩ : ∃ l, l = (lvAt T k).2.2 := ⟨_, rfl⟩
              simp only [← hpd, ← hqd, ← hld, ← hld'] at z0 z1 z2 z3 v0 v1 v2 v3 hl1 hl2 hpm
              rw [hl1] at z2 z3
              rw [hl2] at v2 v3
              have x0 := cell_below (below_drew HBX.out) z0
              have x1 := cell_below (below_drew HBX.out) z1
              have x2 := cell_below (below_drew HBX.out) z2
              have y0 := cell_below (below_drew HBX.out) v0
              have y1 := cell_below (below_drew HBX.out) v1
              have y2 := cell_below (below_drew HBX.out) v2
              have Z2 := Lib.hid z2
              have V2 := Lib.hid v2
              have HP3 := Lib.hid z3
              have HP4 := Lib.hid v3
              have HL1 := Lib.hid hl1
              have HL2 := Lib.hid hl2
              have HPM := Lib.hid hpm
              have hk0 : (0 : Int) ≤ (k : Int) := by omega
              have hk1 : (k : Int) < (S.length : Int) := by omega
              have hkm := HSM.out
              clear hp hq hpd hqd hld hld' z0 z1 z2 z3 v0 v1 v2 v3 hl1 hl2 hpm hltt HLV
              go_wp2_with fail
              go_region
              go_wp2_with fail
              clear x0 x1 x2 y0 y1 y2
              go_loopw [14] (fun i wx => ∃ m : Nat, m ≤ L.length ∧ i = .int .i64 m ∧ Hid (Below w4.heap.size w4 wx))
                (fun i _ => L.length - (intOf i).toNat)
              case atStart => exact ⟨0, Nat.zero_le _, rfl, Lib.hid (bd_drew HBX.out)⟩
              case round =>
                obtain ⟨m, hml, rfl, HBM⟩ := hrel
                by_cases hltm : m < L.length
                · obtain ⟨j, hj⟩ : ∃ j, j = (m + r) % L.length := ⟨_, rfl⟩
                  have hjl : j < L.length := by rw [hj]; exact Nat.mod_lt _ hpos
                  have hpm := HPM.out m hltm
                  rw [← hj] at hpm
                  obtain ⟨b5, off5, rfl, e0, _⟩ := i64_cell HP3.out (k := j) (by rw [HL1.out]; exact hjl)
                  obtain ⟨b6, off6, rfl, f0, _⟩ := i64_cell HP4.out (k := m) (by rw [HL2.out]; exact hltm)
                  obtain ⟨x, hx⟩ : ∃ x, x = l[j]'(by rw [HL1.out]; exact hjl) := ⟨_, rfl⟩
                  have hy : l'[m]'(by rw [HL2.out]; exact hltm) = x := by
                    rw [hx]
                    rw [List.getElem?_eq_getElem (by rw [HL2.out]; exact hltm), List.getElem?_eq_getElem (by rw [HL1.out]; exact hjl)] at hpm
                    exact Option.some.inj hpm
                  rw [← hx] at e0
                  rw [hy] at f0
                  have x2 := cell_below (below_drew HBM.out) Z2.out
                  have y2 := cell_below (below_drew HBM.out) V2.out
                  have x3 := cell_below (below_drew HBM.out) e0
                  have y3 := cell_below (below_drew HBM.out) f0
                  have hmod : ((m : Int) + (r : Int)) % (L.length : Int) = (j : Int) := by rw [hj]; push_cast; rfl
                  have hm0 : (0 : Int) ≤ (m : Int) := by omega
                  have hm1 : (m : Int) < (L.length : Int) := by omega
                  have hj0 : (0 : Int) ≤ (j : Int) := by omega
                  have hj1 : (j : Int) < (L.length : Int) := by omega
                  have hwr : IntKind.i64.wrap ((m : Int) + (r : Int)) = (m : Int) + (r : Int) := IntWalk.i64_in _ ⟨by omega, by omega⟩
                  have hwj : IntKind.i64.wrap (j : Int) = (j : Int) := IntWalk.i64_in _ ⟨by omega, by omega⟩
                  clear hx hy e0 f0 hpm hj
                  go_wp2_with fail
                  go_region
                  go_wp2_with fail
                  go_roundw
                  case rel => exact ⟨m + 1, hltm, by go_num, Lib.hid (bd_drew HBM.out)⟩
                  case measure => simp [intOf]; omega
                · obtain rfl : m = L.length := by omega
                  go_wp2
                  go_roundw
                  case rel => exact ⟨k + 1, hlts, by go_num, HBM.out⟩
                  case measure => simp [intOf]; omega
            · obtain rfl : k = S.length := by omega
              go_wp2
              go_ret
              exact ⟨below_next HB2.out (below_next HB4.out HBX.out), rfl⟩
#print axioms perm_calls
end Go.Proofs.Ytoiakikfehfklaa
