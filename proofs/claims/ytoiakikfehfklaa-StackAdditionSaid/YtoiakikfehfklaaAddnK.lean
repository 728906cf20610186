/- StackAddition: the walk. The law returns true, whatever the curves. No condition. -/
import Derived.Test.YtoiakikfehfklaaAtK
namespace Go.Proofs.Ytoiakikfehfklaa
set_option linter.unusedVariables false
set_option linter.unusedSimpArgs false
open Go.RowKit
theorem info_curve' : (Try.prog.info? 25).map (fun i => (i.zero, i.size, i.bytes)) = some (some (.slice none 0 0), 1, 24) := by kernel_rfl
theorem one_row {α : Type} (K : Kd α) {W : World} {b c : Nat} {e : TypeId} {fr : Nat × Nat} {v : Value} {l : List α} (hh : W.heap[b]? = some (.cells #[v] e fr)) (h1 : Row K AnyB W v l) (hc : 1 ≤ c) : Row (Kd.slice K) AnyB W (.slice (some ⟨b, 0, none⟩) 1 c) [l] :=
  Row.blk (Kd.slice K) [l] [[v]] hh rfl rfl (fun j hj hj' => by
    match j, hj with
    | 0, _ => exact ⟨v, rfl, h1⟩) trivial rfl hc (by simp)
theorem Own.empty {α : Type} (K : Kd α) {e base : Nat} {w : World} {b : Nat} (h : w.heap[b]? = some (.cells #[] e (0, 0))) (hb : base ≤ b) : Own K e base (fun _ _ => False) w (.slice (some ⟨b, 0, none⟩) 0 0) [] :=
  ⟨[], rfl, fun j h => absurd h (by simp), ⟨by simp, .inr ⟨b, 0, #[], rfl, hb, h, Nat.le_refl _, by simp [maxLen], by simp, by simp⟩⟩, fun _ _ h => h.elim, by simp⟩

set_option maxRecDepth 100000 in
set_option maxHeartbeats 4000000 in
theorem addn_calls (A : Option Addr) (n c : Nat) (L : List Crv) (bids : Bool) (A2 : Option Addr) (n2 c2 : Nat) (m : Crv) (w : World) (h : Row Kd.curve AnyB w (.slice A n c) L) (h2 : Row Kd.step AnyB w (.slice A2 n2 c2) m) :
    Calls Try.prog 4 #[.slice A n c, .bool bids, .slice A2 n2 c2] w fun e w' => Below w.heap.size w w' ∧ e = .returned (.bool true) := by
  obtain rfl := h.len
  obtain rfl := h2.len
  have hm := h.small
  have hm2 := h2.small
  have HR := Lib.hid h
  have HM := Lib.hid h2
  clear h h2
  go_enter Try.func4, Try.ntmps4
  obtain ⟨lg, hlg⟩ : ∃ lg, lg = longP L := ⟨_, rfl⟩
  have HLG := Lib.hid hlg
  cases lg with
  | true =>
    clear hlg
    go_wp2_with fail
    refine (long_calls AnyB _ _ _ L _ HR.out).mono ?_
    rintro e w1 ⟨rfl, rfl⟩
    rw [← HLG.out]
    go_wp2_with fail
    refine (awake_calls _).mono ?_
    rintro e w2 ⟨hb2, rfl⟩
    have HB2 := Lib.hid hb2
    clear hb2
    go_wp2
    go_ret
    exact ⟨HB2.out, rfl⟩
  | false =>
    clear hlg
    obtain ⟨lm, hlm⟩ : ∃ lm, lm = longP [m] := ⟨_, rfl⟩
    have HLM := Lib.hid hlm
    cases lm with
    | true =>
      clear hlm
      go_wp2_with fail
      refine (long_calls AnyB _ _ _ L _ HR.out).mono ?_
      rintro e w1 ⟨rfl, rfl⟩
      rw [← HLG.out]
      go_wp2_with fail
      refine (long_calls AnyB _ _ _ [m] _ (one_row Kd.step (alloc_last rfl) (HM.out.below (below_alloc _ _)) (by simp))).mono ?_
      rintro e w1 ⟨rfl, rfl⟩
      rw [← HLM.out]
      go_wp2_with fail
      refine (awake_calls _).mono ?_
      rintro e w2 ⟨hb2, rfl⟩
      have HB2 := Lib.hid (below_next (below_alloc _ _) hb2)
      clear hb2
      go_wp2
      go_ret
      exact ⟨HB2.out, rfl⟩
    | false =>
      clear hlm
      by_cases h16 : 16 ≤ L.length
      · have hge : (16 : Int) ≤ (L.length : Int) := by omega
        clear h16
        go_wp2_with fail
        refine (long_calls AnyB _ _ _ L _ HR.out).mono ?_
        rintro e w1 ⟨rfl, rfl⟩
        rw [← HLG.out]
        go_wp2_with fail
        refine (long_calls AnyB _ _ _ [m] _ (one_row Kd.step (alloc_last rfl) (HM.out.below (below_alloc _ _)) (by simp))).mono ?_
        rintro e w1 ⟨rfl, rfl⟩
        rw [← HLM.out]
        go_wp2_with fail
        refine (awake_calls _).mono ?_
        rintro e w2 ⟨hb2, rfl⟩
        have HB2 := Lib.hid (below_next (below_alloc _ _) hb2)
        clear hb2
        go_wp2
        go_ret
        exact ⟨HB2.out, rfl⟩
      · have hlt : (L.length : Int) < 16 := by omega
        have H16 := Lib.hid (Nat.lt_of_not_le h16)
        clear h16
        go_wp2_with fail
        refine (long_calls AnyB _ _ _ L _ HR.out).mono ?_
        rintro e w1 ⟨rfl, rfl⟩
        rw [← HLG.out]
        go_wp2_with fail
        refine (long_calls AnyB _ _ _ [m] _ (one_row Kd.step (alloc_last rfl) (HM.out.below (below_alloc _ _)) (by simp))).mono ?_
        rintro e w1 ⟨rfl, rfl⟩
        rw [← HLM.out]
        go_wp2_with fail
        refine (awake_calls _).mono ?_
        rintro e w2 ⟨hb2, rfl⟩
        have HB2 := Lib.hid (below_next (below_alloc _ _) hb2)
        have HR2 := Lib.hid ((HR.out.below HB2.out))
        have HM2 := Lib.hid ((HM.out.below HB2.out))
        clear hb2
        obtain ⟨s, hs⟩ : ∃ s, s = stackedR bids L := ⟨_, rfl⟩
        obtain ⟨S, se⟩ := s
        have HS := Lib.hid hs
        clear hs
        go_wp2_with fail
        refine (stacked_calls _ _ _ _ L bids _ HR2.out).mono ?_
        rintro e w3 ⟨hb3, v3, rfl, hv3⟩
        rw [← HS.out] at hv3 ⊢
        simp only at hv3
        obtain ⟨A3, c3, rfl, -⟩ := hv3.form
        have HB3 := Lib.hid (below_next HB2.out hb3)
        have HV3 : Hid (Row Kd.level AnyB w3 (.slice A3 S.length c3) S) := Lib.hid (hv3.mono fun _ _ _ => trivial)
        have HR3 := Lib.hid (HR2.out.below hb3)
        have HM3 := Lib.hid (HM2.out.below hb3)
        clear hb3 hv3
        have HRL := Lib.hid HR3.out.live
        have HML := Lib.hid HM3.out.live
        go_wp2_with (at_builtin; refine wp_append_row Kd.curve rfl _ _ 22 rfl 25 _ 24 Try.underlying22 info_curve' rfl (by decide) w3.heap.size (fun k _ => k < w3.heap.size) (.slice (some ⟨w3.heap.size, 0, none⟩) 0 0) [] rfl ?hown _ L rfl (fun k o => AnyB k o ∧ k < w3.heap.size ∧ IsCells o) ?hrow ?hok ?hby ?hba ?_)
        case hown => exact (Own.empty Kd.curve (alloc_last rfl) (Nat.le_refl _)).mono (fun _ _ h => h.elim) (fun k _ h e => by simp [Value.ownBlock] at e; omega)
        case hrow => exact HRL.out.below (below_alloc _ _)
        case hok => exact fun x cs h => Kd.curve.mono (fun _ _ h => h.2.1) h
        case hby => have := H16.out; simp; omega
        case hba => simp
        intro v4 w4 hown4 hg4 hat4
        obtain ⟨A4, c4, rfl⟩ := hown4.form
        have HBx : Hid (Below w3.heap.size w3 w4) := Lib.hid (below_grown (below_alloc _ _) hg4 (fun j hj => by simp [Value.ownBlock] at hj; omega))
        have HO4 : Hid (Own Kd.curve 25 w3.heap.size (fun k _ => k < w3.heap.size) w4 (.slice A4 L.length c4) L) := Lib.hid (hown4.mono (fun _ _ h => h.1) (fun k _ h e => by have := (hown4.base_le k e).1; omega))
        clear hown4 hg4 hat4
        go_wp2_with (at_builtin; refine wp_append Kd.curve rfl _ _ 22 rfl 25 _ 24 Try.underlying22 info_curve' rfl (by decide) w3.heap.size (fun k _ => k < w3.heap.size) _ L rfl ?hown _ [m] rfl ?hel ?hby ?hba ?_)
        case hown => exact HO4.out.below (below_alloc _ _)
        case hel => exact Elems.one (cs := #[.slice A2 (List.length m) c2]) ⟨_, rfl, ((HML.out.below HBx.out).below (below_alloc _ _)).mono (fun _ _ h => h.2.1)⟩ (alloc_last rfl)
        case hby => have := H16.out; simp; omega
        case hba => have := HBx.out.size; simp; omega
        intro v5 w5 hown5 hg5 hat5
        obtain ⟨A5, c5, hv5⟩ := hown5.form
        rw [show (L ++ [m]).length = L.length + 1 by simp] at hv5
        subst hv5
        have HB5 : Hid (Below w3.heap.size w3 w5) := Lib.hid (below_grown (bd_alloc0 HBx.out _) hg5 (fun j hj => (HO4.out.base_le j hj).1))
        have HV5 := Lib.hid (HV3.out.below HB5.out)
        have HM5 := Lib.hid (HM3.out.below HB5.out)
        have HB5 := Lib.hid (below_next HB3.out HB5.out)
        have HR5 := Lib.hid hown5.row
        clear hown5 hg5 hat5
        obtain ⟨t, ht⟩ : ∃ t, t = stackedR bids (L ++ [m]) := ⟨_, rfl⟩
        obtain ⟨T, te⟩ := t
        have HT := Lib.hid ht
        clear ht
        go_wp2_with fail
        refine (stacked_calls _ _ _ _ (L ++ [m]) bids _ HR5.out).mono ?_
        rintro e w6 ⟨hb6, v6, rfl, hv6⟩
        rw [← HT.out] at hv6 ⊢
        simp only at hv6
        obtain ⟨A6, c6, rfl, -⟩ := hv6.form
        have HB6 := Lib.hid (below_next HB5.out hb6)
        have HV6 : Hid (Row Kd.level AnyB w6 (.slice A6 T.length c6) T) := Lib.hid (hv6.mono fun _ _ _ => trivial)
        have HV3 := Lib.hid (HV5.out.below hb6)
        have HM6 := Lib.hid (HM5.out.below hb6)
        clear hb6 hv6
        obtain ⟨o, ho⟩ : ∃ o, o = stackedR bids [m] := ⟨_, rfl⟩
        obtain ⟨O, oe⟩ := o
        have HO := Lib.hid ho
        clear ho
        go_wp2_with fail
        refine (stacked_calls _ _ _ _ [m] bids _ (one_row Kd.step (alloc_last rfl) (HM6.out.below (below_alloc _ _)) (by simp))).mono ?_
        rintro e w7 ⟨hb7, v7, rfl, hv7⟩
        rw [← HO.out] at hv7 ⊢
        simp only at hv7
        obtain ⟨A7, c7, rfl, -⟩ := hv7.form
        have HB7 := Lib.hid (below_next (bd_alloc0 HB6.out _) hb7)
        have HV7 : Hid (Row Kd.level AnyB w7 (.slice A7 O.length c7) O) := Lib.hid (hv7.mono fun _ _ _ => trivial)
        have HT7 := Lib.hid ((HV6.out.below (below_alloc _ _)).below hb7)
        have HV3 := Lib.hid ((HV3.out.below (below_alloc _ _)).below hb7)
        have HM7 := Lib.hid ((HM6.out.below (below_alloc _ _)).below hb7)
        clear hb7 hv7
        have hlaw : ((se = 0 ∧ oe = 0) ↔ te = 0) ∧ (te = 0 → O.length = m.length ∧ (∀ j (h : j < m.length) (h' : j < O.length), O[j].1 = m[j].2 ∧ O[j].2.1 = m[j].1 ∧ O[j].2.2.length = 1) ∧
            (∀ j (h : j < T.length), T[j].2.1 = atP S T[j].1 + atP O T[j].1 ∧ T[j].2.2.length = L.length + 1 ∧ ∀ (h2 : L.length < T[j].2.2.length), T[j].2.2[L.length] = atP O T[j].1) ∧ totalE T = totalE S + totalE O ∧
            checkE S = 0 ∧ checkE O = 0 ∧ checkE T = 0) := by
          have h1 := HS.out
          have h2 := HT.out
          have h3 := HO.out
          unfold stackedR at h1 h2 h3
          simp only [Prod.mk.injEq] at h1 h2 h3
          exact add_law (!bids) L m S T O (mergeR (!bids) L).2.1 (mergeR (!bids) (L ++ [m])).2.1 (mergeR (!bids) [m]).2.1 se te oe H16.out (by rw [h1.1, h1.2]) (by rw [h2.1, h2.2]) (by rw [h3.1, h3.2])
        obtain ⟨hiff, hall⟩ := hlaw
        clear HS HT HO
        by_cases ht0 : te = 0
        · have _h0 := ht0
          clear _h0
          obtain ⟨hs0, ho0⟩ := hiff.2 ht0
          obtain ⟨hOl, hO1, hT1, htot, cS, cO, cT⟩ := hall ht0
          have okS := check_ok cS
          have okO := check_ok cO
          have HLS : Hid (S.length ≤ 48 ∧ ∀ x ∈ S, 0 ≤ x.2.1 ∧ x.2.1 ≤ 16000000) := Lib.hid ⟨okS.1, fun x hx => ⟨Int.le_of_lt (okS.2 x hx).pos, (okS.2 x hx).top⟩⟩
          have HLO : Hid (O.length ≤ 48 ∧ ∀ x ∈ O, 0 ≤ x.2.1 ∧ x.2.1 ≤ 16000000) := Lib.hid ⟨okO.1, fun x hx => ⟨Int.le_of_lt (okO.2 x hx).pos, (okO.2 x hx).top⟩⟩
          have HOL := Lib.hid hOl
          have HO1 : Hid (∀ j (h : j < m.length), (lvAt O j).1 = m[j].2 ∧ (lvAt O j).2.1 = m[j].1 ∧ (lvAt O j).2.2.length = 1) := Lib.hid (fun j h => by
            have h' : j < O.length := by omega
            have := hO1 j h h'
            rwa [← lvAt_eq h'] at this)
          have HT1 : Hid (∀ j (h : j < T.length), (lvAt T j).2.1 = atP S (lvAt T j).1 + atP O (lvAt T j).1 ∧ (lvAt T j).2.2.length = L.length + 1 ∧ (lvAt T j).2.2[L.length]? = some (atP O (lvAt T j).1)) := Lib.hid (fun j h => by
            obtain ⟨a, b, d⟩ := hT1 j h
            rw [← lvAt_eq h] at a b
            refine ⟨a, b, ?_⟩
            have hlt2 : L.length < T[j].2.2.length := by rw [← lvAt_eq h]; omega
            have := d hlt2
            rw [lvAt_eq h, List.getElem?_eq_getElem hlt2, this])
          have HTOT := Lib.hid htot
          have HTS := Lib.hid (totalE_le S)
          have HTO := Lib.hid (totalE_le O)
          have hmm : m.length ≤ 48 := by rw [← hOl]; exact okO.1
          have HTL := Lib.hid HT7.out.small
          rw [hOl] at HV7 ⊢
          subst hs0 ho0 ht0
          clear hiff hall hOl hO1 hT1 htot cS cO cT okS okO
          go_wp2_with fail
          go_loopw [13] (fun i wr => ∃ k : Nat, k ≤ m.length ∧ i = .int .i64 k ∧ Hid (Below w7.heap.size w7 wr))
            (fun i _ => m.length - (intOf i).toNat)
          case atStart => exact ⟨0, Nat.zero_le _, rfl, Below.refl _ _⟩
          case round =>
            obtain ⟨k, hkm, rfl, HBX⟩ := hrel
            by_cases hltk : k < m.length
            · have hltO : k < O.length := by rw [HOL.out]; exact hltk
              obtain ⟨b3, off3, A8, c8, rfl, z0, z1, z2, -, -, z3⟩ := level_cell (s := O) (n := O.length) (by rw [HOL.out]; exact HV7.out) hltO
              obtain ⟨b4, off4, rfl, u0, u1, -, -⟩ := step_cell HM7.out hltk
              obtain ⟨e1, e2, e3⟩ := HO1.out k hltk
              rw [e1] at z0
              rw [e2] at z1
              rw [e3] at z2
              obtain ⟨p, hp⟩ : ∃ p, p = m[k].2 := ⟨_, rfl⟩
              obtain ⟨q, hq⟩ : ∃ q, q = m[k].1 := ⟨_, rfl⟩
              rw [← hp] at z0 u1
              rw [← hq] at z1 u0
              have x0 := cell_below (below_drew HBX.out) z0
              have x1 := cell_below (below_drew HBX.out) z1
              have x2 := cell_below (below_drew HBX.out) z2
              have y0 := cell_below (below_drew HBX.out) u0
              have y1 := cell_below (below_drew HBX.out) u1
              have hk0 : (0 : Int) ≤ (k : Int) := by omega
              have hk1 : (k : Int) < (m.length : Int) := by omega
              clear hp hq e1 e2 e3 z0 z1 z2 z3 u0 u1 hltO
              go_wp2_with fail
              go_region
              go_wp2_with fail
              go_roundw
              case rel => exact ⟨k + 1, hltk, by go_num, Lib.hid (bd_drew HBX.out)⟩
              case measure => simp [intOf]; omega
            · obtain rfl : k = m.length := by omega
              have HV3x := Lib.hid (HV3.out.below HBX.out)
              have HV7x := Lib.hid (HV7.out.below HBX.out)
              have HT7x := Lib.hid (HT7.out.below HBX.out)
              obtain ⟨wo, hwo⟩ : ∃ wo : World, wo = wr := ⟨_, rfl⟩
              rw [← hwo] at HBX HV3x HV7x HT7x ⊢
              clear hwo
              go_wp2_with fail
              go_loopw [14] (fun i wr => ∃ k : Nat, k ≤ T.length ∧ i = .int .i64 k ∧ Hid (Below wo.heap.size wo wr))
                (fun i _ => T.length - (intOf i).toNat)
              case atStart => exact ⟨0, Nat.zero_le _, rfl, Below.refl _ _⟩
              case round =>
                obtain ⟨k, hkt, rfl, HBY⟩ := hrel
                by_cases hltk : k < T.length
                · obtain ⟨b3, off3, A8, c8, rfl, z0, z1, z2, -, -, z3⟩ := level_cell (HT7x.out.below HBY.out) hltk
                  obtain ⟨e1, e2, e3⟩ := HT1.out k hltk
                  obtain ⟨p, hp⟩ : ∃ p, p = (lvAt T k).1 := ⟨_, rfl⟩
                  obtain ⟨x, hx⟩ : ∃ x, x = atP S p := ⟨_, rfl⟩
                  obtain ⟨y, hy⟩ : ∃ y, y = atP O p := ⟨_, rfl⟩
                  have hxb := atP_le (p := p) HLS.out.2 S.length (Nat.le_refl _)
                  have hyb := atP_le (p := p) HLO.out.2 O.length (Nat.le_refl _)
                  rw [List.take_length, ← hx] at hxb
                  rw [List.take_length, ← hy] at hyb
                  have htl := HTL.out
                  have hS48 := HLS.out.1
                  have hO48 := HLO.out.1
                  rw [e2] at z2 z3
                  have hlast : L.length < (lvAt T k).2.2.length := by omega
                  obtain ⟨b5, off5, rfl, f0, -⟩ := i64_cell z3 hlast
                  rw [List.getElem?_eq_getElem hlast] at e3
                  rw [Option.some.inj e3, ← hp, ← hy] at f0
                  rw [e1, ← hp, ← hx, ← hy] at z1
                  rw [← hp] at z0
                  obtain ⟨hx0, hx1⟩ := hxb
                  obtain ⟨hy0, hy1⟩ := hyb
                  have hwr : IntKind.i64.wrap (x + y) = x + y := IntWalk.i64_in _ ⟨by omega, by omega⟩
                  have hwl : IntKind.i64.wrap ((L.length : Int) + 1) = (L.length : Int) + 1 := IntWalk.i64_in _ ⟨by omega, by omega⟩
                  have hk0 : (0 : Int) ≤ (k : Int) := by omega
                  have hk1 : (k : Int) < (T.length : Int) := by omega
                  have HAS := Lib.hid (show ∀ n, Calls Try.prog 8 #[.slice A3 S.length c3, .int .i64 p] (wr.drewN n) fun e w' => e = .returned (.int .i64 x) ∧ w' = wr.drewN n from fun n => by
                    rw [hx]
                    exact (at_price AnyB _ _ _ S p (wr.drewN n) (Row.keep (w' := wr.drewN n) (HV3x.out.below HBY.out) (fun _ _ => rfl)) HLS.out.1 HLS.out.2).mono (fun _ _ h => And.intro h.2 h.1))
                  have HAO := Lib.hid (show ∀ n, Calls Try.prog 8 #[.slice A7 m.length c7, .int .i64 p] (wr.drewN n) fun e w' => e = .returned (.int .i64 y) ∧ w' = wr.drewN n from fun n => by
                    rw [hy]
                    exact (at_price AnyB _ _ _ O p (wr.drewN n) (Row.keep (w' := wr.drewN n) (HV7x.out.below HBY.out) (fun _ _ => rfl)) HLO.out.1 HLO.out.2).mono (fun _ _ h => And.intro h.2 h.1))
                  clear hp hx hy e1 e2 e3 z3
                  go_wp2_with fail
                  go_quiet ((go_at_call 8; first | with_reducible exact Calls.quiet_of_same (HAS.out _) | with_reducible exact Calls.quiet_of_same (HAO.out _)))
                  go_wp2_with fail
                  go_roundw
                  case rel => exact ⟨k + 1, hltk, by go_num, Lib.hid (HBY.out.trans ⟨rfl, rfl, rfl, Nat.le_refl _, fun _ _ => rfl⟩)⟩
                  case measure => simp [intOf]; omega
                · obtain rfl : k = T.length := by omega
                  obtain ⟨tT, htT⟩ : ∃ z, z = totalE T := ⟨_, rfl⟩
                  obtain ⟨tS, htS⟩ : ∃ z, z = totalE S := ⟨_, rfl⟩
                  obtain ⟨tO, htO⟩ : ∃ z, z = totalE O := ⟨_, rfl⟩
                  have hsum : tT = tS + tO := by rw [htT, htS, htO]; exact HTOT.out
                  have hbS := HTS.out
                  have hbO := HTO.out
                  rw [← htS] at hbS
                  rw [← htO] at hbO
                  have HSUM := Lib.hid hsum
                  have hwr : IntKind.i64.wrap (tS + tO) = tS + tO := IntWalk.i64_in _ ⟨by omega, by omega⟩
                  have HTT := Lib.hid htT
                  have HTSS := Lib.hid htS
                  have HTOO := Lib.hid htO
                  clear hsum htT htS htO
                  go_wp2_with fail
                  refine (total_calls AnyB _ _ _ T _ (HT7x.out.below HBY.out)).mono ?_
                  rintro e w8 ⟨hb8, rfl⟩
                  rw [← HTT.out]
                  have HB8 := Lib.hid (below_next HBY.out hb8)
                  clear hb8
                  go_wp2_with fail
                  refine (total_calls AnyB _ _ _ S _ (HV3x.out.below HB8.out)).mono ?_
                  rintro e w9 ⟨hb9, rfl⟩
                  rw [← HTSS.out]
                  have HB9 := Lib.hid (below_next HB8.out hb9)
                  clear hb9
                  go_wp2_with fail
                  refine (total_calls AnyB _ _ _ O _ (by have h := HV7x.out.below HB9.out; exact h)).mono ?_
                  rintro e w10 ⟨hb10, rfl⟩
                  rw [← HTOO.out]
                  have HB10 := Lib.hid (below_next HB9.out hb10)
                  clear hb10
                  go_wp2
                  go_ret
                  exact ⟨below_next HB7.out (below_next HBX.out HB10.out), by simp [HSUM.out]⟩
        · have hte : (te == 0) = false := by rw [beq_eq_false_iff_ne]; exact ht0
          have HT0 := Lib.hid ht0
          by_cases hs0 : se = 0
          · have ho0 : oe ≠ 0 := fun e => ht0 (hiff.1 ⟨hs0, e⟩)
            have hoe : (oe == 0) = false := by rw [beq_eq_false_iff_ne]; exact ho0
            subst hs0
            clear hiff hall ht0 ho0
            go_wp2
            go_ret
            exact ⟨HB7.out, by simp [HT0.out]⟩
          · have hse : (se == 0) = false := by rw [beq_eq_false_iff_ne]; exact hs0
            clear hiff hall ht0 hs0
            go_wp2
            go_ret
            exact ⟨HB7.out, by simp [HT0.out]⟩
#print axioms addn_calls
end Go.Proofs.Ytoiakikfehfklaa
