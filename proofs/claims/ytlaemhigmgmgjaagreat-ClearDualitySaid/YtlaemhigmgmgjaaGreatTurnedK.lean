/- The law helper turned: every curve's prices negated. No condition beyond sizes. -/
import Derived.Test.YtlaemhigmgmgjaaGreatNegK
import Derived.Test.YtlaemhigmgmgjaaGreatK11
namespace Go.Proofs.YtlaemhigmgmgjaaGreat
set_option linter.unusedVariables false
set_option linter.unusedSimpArgs false
open Go.RowKit

theorem info_curve27 : (Tryz.prog.info? 23).map (fun i => (i.zero, i.size, i.bytes)) = some (some (.slice none 0 0), 1, 24) := by kernel_rfl
/-- New, but for one block. -/
def NewBut2 (n : Nat) (v : Value) (k : Nat) (o : Option Obj) : Prop := New n k o ∧ v.ownBlock ≠ some k
theorem Own.apart2 {α : Type} {K : Kd α} {e base : Nat} {ok : Nat → Option Obj → Prop} {w : World} {v : Value} {l : List α} (h : Own K e base ok w v l) : ∀ k o, ok k o → v.ownBlock ≠ some k := let ⟨_, _, _, _, hne, _⟩ := h; hne
set_option maxRecDepth 100000 in
set_option maxHeartbeats 4000000 in
theorem turned_calls (A : Option Addr) (n c : Nat) (L : List Crv) (w : World) (h : Row Kd.curve AnyB w (.slice A n c) L) (hl : L.length ≤ 6) (hin : ∀ cv ∈ L, cv.length ≤ 3 ∧ ∀ s ∈ cv, StepIn s) :
    Calls Tryz.prog 17 #[.slice A n c] w fun e w' => Below w.heap.size w w' ∧ ∃ A2 c2, e = .returned (.slice A2 L.length c2) ∧ Row Kd.curve AnyB w' (.slice A2 L.length c2) (L.map turnF) := by
  obtain rfl := h.len
  have HR := Lib.hid h
  have HIN := Lib.hid hin
  obtain ⟨xs, hxs⟩ : ∃ xs, xs = L.map turnF := ⟨_, rfl⟩
  have hxl : xs.length = L.length := by rw [hxs]; simp
  rw [← hxs]
  have HXS := Lib.hid hxs
  have HXL := Lib.hid hxl
  clear h hin hxs hxl
  go_enter Tryz.func17, Tryz.ntmps17
  go_wp2_with fail
  go_loopw [3, 4] (fun out i wr => ∃ (k : Nat) (okk : Nat → Option Obj → Prop), k ≤ L.length ∧ i = .int .i64 k ∧ Hid (Below w.heap.size w wr) ∧ Hid (Own Kd.curve 23 w.heap.size okk wr out (xs.take k)) ∧ Hid (∀ b o, okk b o → New w.heap.size b o))
    (fun _ i _ => L.length - (intOf i).toNat)
  case atStart => exact ⟨0, fun _ _ => False, Nat.zero_le _, rfl, Below.refl _ _, Own.nil _ _ _ _ _, fun _ _ h => h.elim⟩
  case round =>
    obtain ⟨k, okk, hk, rfl, HBW, HOWN, HOK⟩ := hrel
    obtain ⟨Ao, co, hAo⟩ := HOWN.out.form
    have hxl := HXL.out
    by_cases hlt : k < L.length
    · have hlen : (xs.take k).length = k := by rw [List.length_take]; omega
      rw [hlen] at hAo
      subst hAo
      obtain ⟨b, off, A', c', rfl, y0, hv⟩ := curve_cell (HR.out.below HBW.out) hlt
      have hts := List.take_succ_eq_append_getElem (l := xs) (i := k) (by omega)
      have hg : xs[k]'(by omega) = turnF L[k] := by
        have h1 := HXS.out
        subst h1
        exact List.getElem_map _
      rw [hg] at hts
      have hci := HIN.out L[k] (List.getElem_mem _)
      obtain ⟨cv, hcv⟩ : ∃ cv, cv = L[k] := ⟨_, rfl⟩
      rw [← hcv] at hts hv y0 hci
      have HTS := Lib.hid hts
      have HCI := Lib.hid hci
      have HV := Lib.hid hv
      have hk0 : (0 : Int) ≤ (k : Int) := by omega
      have hk1 : (k : Int) < (L.length : Int) := by omega
      have HLEN := Lib.hid hlen
      clear hts hg hcv hlen hv hci hxl
      go_wp2_with fail
      refine (negate_calls AnyB _ _ _ cv _ HV.out HCI.out.1 HCI.out.2).mono ?_
      rintro e w5 ⟨hb5, A5, rfl, hr5⟩
      have HROW : Hid (Row Kd.step (NewBut2 w.heap.size (.slice Ao k co)) w5 (.slice A5 cv.length cv.length) (turnF cv)) := Lib.hid (hr5.mono (fun i o hi => ⟨⟨by have h1 := HBW.out.size; have h2 := hi.1; omega, hi.2⟩, fun e => by have h1 := (HOWN.out.base_le _ e).2; have h2 := hi.1; omega⟩))
      have HB5 := Lib.hid (below_next HBW.out hb5)
      have HO5 := Lib.hid ((HOWN.out.below hb5).mono (ok' := NewBut2 w.heap.size (.slice Ao k co)) (fun b o h => ⟨HOK.out b o h, HOWN.out.apart2 b o h⟩) (fun _ _ h => h.2))
      clear hb5 hr5 y0
      go_wp2_with (at_builtin; refine wp_append Kd.curve rfl _ _ 22 rfl 23 _ 24 Tryz.underlying22 info_curve27 rfl (by decide) w.heap.size (NewBut2 w.heap.size (.slice Ao k co)) _ (xs.take k) rfl ?hown _ [turnF cv] rfl ?hel ?hby ?hba ?_)
      case hown => exact HO5.out.below (below_alloc _ _)
      case hel => exact Elems.one (cs := #[.slice A5 (List.length cv) (List.length cv)]) ⟨_, rfl, HROW.out.below (below_alloc _ _)⟩ (alloc_last rfl)
      case hby => have := HLEN.out; simp; omega
      case hba => have := HB5.out.size; simp; omega
      intro v3 w3 hown3 hg3 hat3
      have HBR : Hid (Below w.heap.size w w3) := Lib.hid (below_grown (bd_alloc0 HB5.out _) hg3 (fun j hj => (HOWN.out.base_le j hj).1))
      have HO3 := Lib.hid hown3
      clear hown3 hg3 hat3
      go_wp2
      go_roundw
      case rel =>
        have h4 := HO3.out
        rw [← HTS.out] at h4
        exact ⟨k + 1, _, hlt, by go_num, HBR.out, h4, fun b o h => h.1.1⟩
      case measure => simp [intOf]; omega
    · have hkk : xs.take k = xs := List.take_of_length_le (by omega)
      rw [hkk] at hAo HOWN
      rw [hxl] at hAo
      subst hAo
      obtain rfl : k = L.length := by omega
      have HF : Hid (Row Kd.curve AnyB wr (.slice Ao L.length co) xs) := Lib.hid (by have h1 := HOWN.out.row.all; exact h1)
      clear hkk hxl
      go_wp2
      go_ret
      exact ⟨HBW.out, _, _, rfl, HF.out⟩
#print axioms turned_calls
end Go.Proofs.YtlaemhigmgmgjaaGreat
