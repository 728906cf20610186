/- Several texts of my own, joined. No condition beyond what each theorem states. -/
import Derived.Test.YtefgadfcgdjboaaGreatK5
import Derived.Test.YtefgadfcgdjboaaGreatK4
import Derived.Test.YtefgadfcgdjboaaGreatK6
import Derived.Deep.Slices
import Derived.ChangeSame
import Derived.SizedLaws
import Derived.Carry
import Derived.RowKit3
import Derived.ProofKit
import Derived.OpenShut
/- The helper told of the stack laws: a copy of levels. No condition beyond sizes. -/
namespace Go.Proofs.YtefgadfcgdjboaaGreat
set_option linter.unusedVariables false
set_option linter.unusedSimpArgs false
open Go.RowKit

theorem info_i64 : (Tryz.prog.info? 2).map (fun i => (i.zero, i.size, i.bytes)) = some (some (.int .i64 0), 1, 8) := by kernel_rfl
theorem info_rlevel : (Tryz.prog.info? 85).map (fun i => (i.zero, i.size, i.bytes)) = some (some (.agg #[.int .i64 0, .int .i64 0, .slice none 0 0]), 3, 40) := by kernel_rfl
/-- New, but for one block. -/
def NewBut (n : Nat) (v : Value) (k : Nat) (o : Option Obj) : Prop := New n k o ∧ v.ownBlock ≠ some k

theorem told_row {n0 base e : Nat} {okf : Nat → Option Obj → Prop} {w3 : World} {v3 vo : Value} {l : List Int} (h : Own Kd.i64 e base okf w3 v3 l) (hf : ∀ k o, okf k o → False) (hb : n0 ≤ base) (ho : ∀ k, vo.ownBlock = some k → k < base) : Row Kd.i64 (NewBut n0 vo) w3 v3 l :=
  h.row.mono (fun k o hk => by
    rcases hk with hk | ⟨hk, ht⟩
    · exact (hf k o hk).elim
    · have h1 := h.base_le k hk
      exact ⟨⟨by omega, ht⟩, fun e => by have := ho k e; omega⟩)
theorem Own.apart {α : Type} {K : Kd α} {e base : Nat} {ok : Nat → Option Obj → Prop} {w : World} {v : Value} {l : List α} (h : Own K e base ok w v l) : ∀ k o, ok k o → v.ownBlock ≠ some k := let ⟨_, _, _, _, hne, _⟩ := h; hne

set_option maxRecDepth 100000 in
set_option maxHeartbeats 4000000 in
theorem told_calls (ok : Nat → Option Obj → Prop) (A : Option Addr) (n c : Nat) (s : List Lv) (w : World) (h : Row Kd.level ok w (.slice A n c) s) (hs : s.length ≤ 1000) (hp : ∀ x ∈ s, x.2.2.length ≤ 1000) :
    Calls Tryz.prog 27 #[.slice A n c] w fun e w' => Below w.heap.size w w' ∧ ∃ A' n' c', e = .returned (.slice A' n' c') ∧ Row Kd.level (New w.heap.size) w' (.slice A' n' c') s := by
  obtain rfl := h.len
  have HR := Lib.hid h
  have HP := Lib.hid hp
  clear h hp
  go_enter Tryz.func27, Tryz.ntmps27
  go_wp2_with fail
  go_loopw [3, 4] (fun out i wr => ∃ (k : Nat) (okk : Nat → Option Obj → Prop), k ≤ s.length ∧ i = .int .i64 k ∧ Hid (Below w.heap.size w wr) ∧ Hid (Own Kd.level 85 w.heap.size okk wr out (s.take k)) ∧ Hid (∀ b o, okk b o → New w.heap.size b o))
    (fun _ i _ => s.length - (intOf i).toNat)
  case atStart => exact ⟨0, fun _ _ => False, Nat.zero_le _, rfl, Below.refl _ _, Own.nil _ _ _ _ _, fun _ _ h => h.elim⟩
  case round =>
    obtain ⟨k, okk, hk, rfl, HBW, HOWN, HOK⟩ := hrel
    obtain ⟨Ao, co, hAo⟩ := HOWN.out.form
    by_cases hlt : k < s.length
    · have hlen : (s.take k).length = k := by rw [List.length_take]; omega
      rw [hlen] at hAo
      subst hAo
      obtain ⟨b, off, Ap, cp, rfl, y0, y1, y2, ip, iq, hv⟩ := level_cell HR.out hlt
      have hts := List.take_succ_eq_append_getElem hlt
      rw [← lvAt_eq hlt] at hts
      have hpl := HP.out s[k] (List.getElem_mem _)
      rw [← lvAt_eq hlt] at hpl
      obtain ⟨⟨p, q, l⟩, hxd⟩ : ∃ x, x = lvAt s k := ⟨_, rfl⟩
      rw [← hxd] at y0 y1 y2 hv ip iq hts hpl
      simp only at y0 y1 y2 hv ip iq hpl
      have HTS := Lib.hid hts
      have HI := Lib.hid (And.intro ip iq)
      have HV := Lib.hid (hv.below HBW.out)
      have HPL := Lib.hid hpl
      have hk0 : (0 : Int) ≤ (k : Int) := by omega
      have hk1 : (k : Int) < (s.length : Int) := by omega
      clear hts hxd ip iq hv hpl hlen
      go_wp2_with fail
      go_region_held_law (fun w' => Below w.heap.size w w' ∧ w'.cell? ⟨b, off + k * 3, none⟩ = some (.int .i64 p) ∧ w'.cell? ⟨b, off + k * 3 + 1, none⟩ = some (.int .i64 q) ∧ w'.cell? ⟨b, off + k * 3 + 2, none⟩ = some (.slice Ap l.length cp))
        ((refine (fun hBn => ⟨hBn, cell_below hBn y0, cell_below hBn y1, cell_below hBn y2⟩) ?_; (repeat (first | with_reducible exact HBX.out | with_reducible exact HBW.out | with_reducible refine bd_drew ?_ | with_reducible refine bd_alloc0 ?_ _))))
        (first
          | ((refine step_append (by rfl) _ _ 49 (by rfl) _ _ (by rfl) (by rfl) _ (run_append_row Kd.i64 49 _ 2 _ 8 Tryz.underlying49 info_i64 rfl (by decide) wr.heap.size (fun _ _ => False) (.slice (some ⟨wr.heap.size, 0, none⟩) 0 0) [] (by first | exact Own.made0 Kd.i64 2 wr.heap.size wr (Nat.le_refl _) | exact (Own.made0 Kd.i64 2 wr.heap.size wr (Nat.le_refl _)).below (below_drew (Below.refl _ _))) _ l ok (by first | exact HV.out.below (below_alloc _ _) | exact HV.out.below (below_drew (below_alloc _ _))) (fun _ _ h => h) (by have := HPL.out; simp; omega) (by simp)) ?_; rintro v3 w3 ⟨hown3, hg3, _⟩; rw [List.nil_append] at hown3; obtain ⟨A3, c3, rfl⟩ := hown3.form; have HROW : Hid (Row Kd.i64 (NewBut w.heap.size (.slice Ao k co)) w3 (.slice A3 l.length c3) l) := Lib.hid (told_row hown3 (fun _ _ h => h.1) HBW.out.size (fun j hj => (HOWN.out.base_le j hj).2)); have HBX : Hid (Below w.heap.size w w3) := Lib.hid (below_grown (‹Below w.heap.size w _ ∧ _›).1 hg3 (fun j hj => by have h1 := HBW.out.size; simp [Value.ownBlock] at hj; omega)); have HBR : Hid (Below wr.heap.size wr w3) := Lib.hid (below_grown (by first | exact below_alloc _ _ | exact below_drew (below_alloc _ _)) hg3 (fun j hj => by simp [Value.ownBlock] at hj; omega)); have HO3 := Lib.hid hown3; clear hown3 hg3))
          | ((refine step_append (by rfl) _ _ 62 (by rfl) _ _ (by rfl) (by rfl) _ (run_append Kd.level 62 _ 85 _ 40 Tryz.underlying62 info_rlevel rfl (by decide) w.heap.size (NewBut w.heap.size (.slice Ao k co)) (.slice Ao k co) (s.take k) ((HOWN.out.below (bd_alloc0 HBR.out _)).mono (fun b o h => ⟨HOK.out b o h, HOWN.out.apart b o h⟩) (fun _ _ h => h.2)) _ [(p, q, l)] (Elems.one (cs := #[.int .i64 p, .int .i64 q, .slice A3 l.length c3]) (Kd.level_mk HI.out.1 HI.out.2 (HROW.out.below (below_alloc _ _))) (alloc_last rfl)) (by simp; omega) (‹Below w.heap.size w _ ∧ _›).1.size) ?_; rintro v4 w4 ⟨hown4, hg4, _⟩; have HBX : Hid (Below w.heap.size w w4) := Lib.hid (below_grown (‹Below w.heap.size w _ ∧ _›).1 hg4 (fun j hj => (HOWN.out.base_le j hj).1)); have HO4 := Lib.hid hown4; clear hown4 hg4)))
      go_wp2
      go_roundw
      case rel =>
        have h4 := HO4.out
        rw [← HTS.out] at h4
        exact ⟨k + 1, _, hlt, by go_num, HBX.out, h4, fun b o h => h.1.1⟩
      case measure => simp [intOf]; omega
    · have hkk : s.take k = s := List.take_of_length_le (by omega)
      rw [hkk] at hAo HOWN
      subst hAo
      obtain rfl : k = s.length := by omega
      go_wp2
      go_ret
      exact ⟨HBW.out, _, _, _, rfl, HOWN.out.new HOK.out (Nat.le_refl _)⟩
#print axioms told_calls
end Go.Proofs.YtefgadfcgdjboaaGreat
/- pylonref24.Same: what it returns. No condition. -/
namespace Go.Proofs.YtefgadfcgdjboaaGreat
set_option linter.unusedVariables false
set_option linter.unusedSimpArgs false
open Go.RowKit

theorem take_eq_succ {α : Type} {l k : List α} {i : Nat} (h1 : i < l.length) (h2 : i < k.length) (h : l.take i = k.take i) (e : l[i] = k[i]) : l.take (i + 1) = k.take (i + 1) := by
  rw [List.take_succ_eq_append_getElem h1, List.take_succ_eq_append_getElem h2, h, e]

set_option maxRecDepth 100000 in
set_option maxHeartbeats 4000000 in
theorem same_calls (ok : Nat → Option Obj → Prop) (A A' : Option Addr) (n c n' c' : Nat) (s s' : List Lv) (w : World) (h : Row Kd.level ok w (.slice A n c) s) (h' : Row Kd.level ok w (.slice A' n' c') s') :
    Calls Tryz.prog 26 #[.slice A n c, .slice A' n' c'] w fun e w' => Below w.heap.size w w' ∧ e = .returned (.bool (decide (s = s'))) := by
  obtain rfl := h.len
  obtain rfl := h'.len
  have hm := h.small
  have hm' := h'.small
  have HR := Lib.hid h
  have HR' := Lib.hid h'
  clear h h'
  go_enter Tryz.func26, Tryz.ntmps26
  by_cases hlen : s.length = s'.length
  · have hle : ((s.length : Int) != (s'.length : Int)) = false := by rw [hlen]; simp
    have HLEN := Lib.hid hlen
    clear hlen
    go_wp2_with fail
    go_loopw [5] (fun i wr => ∃ k : Nat, k ≤ s.length ∧ i = .int .i64 k ∧ Hid (s.take k = s'.take k) ∧ Hid (Below w.heap.size w wr))
      (fun i _ => s.length - (intOf i).toNat)
    case atStart => exact ⟨0, Nat.zero_le _, rfl, rfl, Below.refl _ _⟩
    case round =>
      obtain ⟨k, hk, rfl, HT, HBW⟩ := hrel
      by_cases hlt : k < s.length
      · have hlt' : k < s'.length := by have := HLEN.out; omega
        obtain ⟨b, off, Ap, cp, rfl, y0, y1, y2, _, _, hv⟩ := level_cell (HR.out.below (below_drew HBW.out)) hlt
        obtain ⟨b', off', Ap', cp', rfl, z0, z1, z2, _, _, hv'⟩ := level_cell (HR'.out.below (below_drew HBW.out)) hlt'
        obtain ⟨⟨p, q, l⟩, hxd⟩ : ∃ x, x = lvAt s k := ⟨_, rfl⟩
        obtain ⟨⟨p', q', l'⟩, hxd'⟩ : ∃ x, x = lvAt s' k := ⟨_, rfl⟩
        rw [← hxd] at y0 y1 y2 hv
        rw [← hxd'] at z0 z1 z2 hv'
        simp only at y0 y1 y2 hv z0 z1 z2 hv'
        have hx : s[k] = (p, q, l) := by rw [hxd, lvAt_eq hlt]
        have hx' : s'[k] = (p', q', l') := by rw [hxd', lvAt_eq hlt']
        have hdiff : (p, q, l) ≠ (p', q', l') → decide (s = s') = false := fun hne => by
          rw [decide_eq_false_iff_not]
          intro e
          apply hne
          rw [← hx, ← hx']
          simp only [e]
        have HX := Lib.hid (And.intro hx hx')
        have HDIFF := Lib.hid hdiff
        have HV := Lib.hid (And.intro hv hv')
        have hlm := hv.small
        have hlm' := hv'.small
        have hk0 : (0 : Int) ≤ (k : Int) := by omega
        have hk1 : (k : Int) < (s.length : Int) := by omega
        have hk2 : (k : Int) < (s'.length : Int) := by omega
        clear hxd hxd' hx hx' hdiff hv hv'
        by_cases hp : p = p'
        · subst hp
          by_cases hq : q = q'
          · subst hq
            by_cases hll : l.length = l'.length
            · have hl2 : ((l.length : Int) != (l'.length : Int)) = false := by rw [hll]; simp
              have hpp : (p != p) = false := by simp
              have hqq : (q != q) = false := by simp
              have HLL := Lib.hid hll
              have y2c : wr.drew.cell? ⟨b, off + k * 3 + 2, none⟩ = some (.slice Ap l.length cp) := y2
              clear hll
              go_wp2_with fail
              go_region
              all_goals
                go_wp2_with fail
                go_loopw [6] (fun j wx => ∃ i : Nat, i ≤ l.length ∧ j = .int .i64 i ∧ Hid (l.take i = l'.take i) ∧ Hid (Below wr.drew.heap.size wr.drew wx))
                  (fun j _ => l.length - (intOf j).toNat)
                case atStart => exact ⟨0, Nat.zero_le _, rfl, rfl, Below.refl _ _⟩
                case round =>
                  obtain ⟨i, hi, rfl, HTI, HBX⟩ := hrel
                  have hi0 : (0 : Int) ≤ (i : Int) := by omega
                  have y2i := cell_below HBX.out y2
                  have z2i := cell_below HBX.out z2
                  have y2d := cell_below HBX.out.drew y2
                  have z2d := cell_below HBX.out.drew z2
                  by_cases hil : i < l.length
                  · have hil' : i < l'.length := by have := HLL.out; omega
                    obtain ⟨bp, op, rfl, ya, _⟩ := i64_cell (HV.out.1.below HBX.out.drew) hil
                    obtain ⟨bp', op', rfl, za, _⟩ := i64_cell (HV.out.2.below HBX.out.drew) hil'
                    obtain ⟨a, ha⟩ : ∃ a, a = l[i] := ⟨_, rfl⟩
                    obtain ⟨a', ha'⟩ : ∃ a, a = l'[i] := ⟨_, rfl⟩
                    rw [← ha] at ya
                    rw [← ha'] at za
                    have hi1 : (i : Int) < (l.length : Int) := by omega
                    have hi2 : (i : Int) < (l'.length : Int) := by omega
                    have HA := Lib.hid (And.intro ha ha')
                    clear ha ha'
                    by_cases haa : a = a'
                    · subst haa
                      have haf : (a != a) = false := by simp
                      have htk := take_eq_succ hil hil' HTI.out (by rw [← HA.out.1, ← HA.out.2])
                      have HTK := Lib.hid htk
                      clear htk
                      go_wp2_with fail
                      go_region
                      all_goals
                        go_wp2
                        go_roundw
                        case rel => exact ⟨i + 1, hil, by go_num, HTK.out, HBX.out.drew⟩
                        case measure => simp [intOf]; omega
                    · have e := HDIFF.out (fun e => haa (by injection e with _ e; injection e with _ e; rw [HA.out.1, HA.out.2]; simp only [e]))
                      have HE := Lib.hid e
                      have haf : (a != a') = true := by rw [bne_iff_ne]; exact haa
                      clear e haa
                      go_wp2_with fail
                      go_region
                      all_goals
                        go_wp2
                        go_ret
                        exact ⟨below_next HBW.out.drew HBX.out.drew, by rw [HE.out]; rfl⟩
                  · obtain rfl : i = l.length := by omega
                    have hll3 : l = l' := by
                      have h1 := HTI.out
                      rw [List.take_length, HLL.out, List.take_length] at h1
                      exact h1
                    have htk := take_eq_succ hlt hlt' HT.out (by rw [HX.out.1, HX.out.2, hll3])
                    have HTK := Lib.hid htk
                    clear htk hll3 y2 z2 y2d z2d
                    go_wp2
                    go_roundw
                    case rel => exact ⟨k + 1, hlt, by go_num, HTK.out, below_next HBW.out.drew HBX.out⟩
                    case measure => simp [intOf]; omega
            · have e := HDIFF.out (fun e => hll (by injection e with _ e; injection e with _ e; rw [e]))
              have HE := Lib.hid e
              have hl2 : ((l.length : Int) != (l'.length : Int)) = true := by rw [bne_iff_ne]; omega
              have hpp : (p != p) = false := by simp
              have hqq : (q != q) = false := by simp
              clear e hll
              go_wp2_with fail
              go_region
              all_goals
                go_wp2
                go_ret
                exact ⟨HBW.out.drew, by rw [HE.out]; rfl⟩
          · have e := HDIFF.out (fun e => hq (by injection e with _ e; injection e))
            have HE := Lib.hid e
            have hpp : (p != p) = false := by simp
            have hqq : (q != q') = true := by rw [bne_iff_ne]; exact hq
            clear e hq
            go_wp2_with fail
            go_region
            all_goals
              go_wp2
              go_ret
              exact ⟨HBW.out.drew, by rw [HE.out]; rfl⟩
        · have e := HDIFF.out (fun e => hp (by injection e))
          have HE := Lib.hid e
          have hpp : (p != p') = true := by rw [bne_iff_ne]; exact hp
          clear e hp
          go_wp2_with fail
          go_region
          all_goals
            go_wp2
            go_ret
            exact ⟨HBW.out.drew, by rw [HE.out]; rfl⟩
      · obtain rfl : k = s.length := by omega
        have e : decide (s = s') = true := by
          rw [decide_eq_true_iff]
          have h1 := HT.out
          rw [List.take_length, HLEN.out, List.take_length] at h1
          exact h1
        have HE := Lib.hid e
        clear e
        go_wp2
        go_ret
        exact ⟨HBW.out, by rw [HE.out]; rfl⟩
  · have e : decide (s = s') = false := by rw [decide_eq_false_iff_not]; exact fun e => hlen (by rw [e])
    have HE := Lib.hid e
    have hle : ((s.length : Int) != (s'.length : Int)) = true := by rw [bne_iff_ne]; omega
    clear e hlen
    go_wp2
    go_ret
    exact ⟨Below.refl _ _, by rw [HE.out]; rfl⟩
#print axioms same_calls
end Go.Proofs.YtefgadfcgdjboaaGreat
/- pylonref01.Same, pylonref02.Is, pylonref23.Rows: what they return at canonical numbers. No condition. -/
namespace Go.Proofs.YtefgadfcgdjboaaGreat
set_option linter.unusedVariables false
set_option linter.unusedSimpArgs false
open Go.RowKit

def zeq (g g' : Bool) (l l' : List Nat) : Bool := decide (g = g' ∧ l = l')

set_option maxRecDepth 100000 in
set_option maxHeartbeats 2000000 in
theorem zsame_calls (ok ok' : Nat → Option Obj → Prop) (g g' : Bool) (A A' : Option Addr) (n c n' c' : Nat) (l l' : List Nat) (w : World) (h : Row Kd.u32 ok w (.slice A n c) l) (h' : Row Kd.u32 ok' w (.slice A' n' c') l') :
    Calls Tryz.prog 74 #[.agg #[.bool g, .slice A n c], .agg #[.bool g', .slice A' n' c']] w fun e w' => Below w.heap.size w w' ∧ e = .returned (.bool (zeq g g' l l')) := by
  obtain rfl := h.len
  obtain rfl := h'.len
  have hm := h.small
  have hm' := h'.small
  obtain ⟨W, hW, g0, g1, hB, hs⟩ := two_boxes w (.cells #[.bool g, .slice A l.length c] 36) (.cells #[.bool g', .slice A' l'.length c'] 36)
  have a0 : W.cell? ⟨w.heap.size, 0, none⟩ = some (.bool g) := hcell g0 0 rfl
  have a1 : W.cell? ⟨w.heap.size, 1, none⟩ = some (.slice A l.length c) := hcell g0 1 rfl
  have b0 : W.cell? ⟨w.heap.size + 1, 0, none⟩ = some (.bool g') := hcell g1 0 rfl
  have b1 : W.cell? ⟨w.heap.size + 1, 1, none⟩ = some (.slice A' l'.length c') := hcell g1 1 rfl
  have HB := Lib.hid hB
  have HR := Lib.hid (h.below hB)
  have HR' := Lib.hid (h'.below hB)
  clear g0 g1 hB hs h h'
  go_enter Tryz.func74, Tryz.ntmps74
  by_cases hg : g = g'
  · subst hg
    by_cases hlen : l.length = l'.length
    · have hle : ((l.length : Int) != (l'.length : Int)) = false := by rw [hlen]; simp
      have hgg : (g != g) = false := by simp
      have HLEN := Lib.hid hlen
      clear hlen
      go_wp2_with fail
      clear hW
      go_loopw [5] (fun i wr => ∃ k : Nat, k ≤ l.length ∧ i = .int .i64 k ∧ Hid (l.take k = l'.take k) ∧ Hid (Below W.heap.size W wr))
        (fun i _ => l.length - (intOf i).toNat)
      case atStart => exact ⟨0, Nat.zero_le _, rfl, rfl, Below.refl _ _⟩
      case round =>
        obtain ⟨k, hk, rfl, HT, HBW⟩ := hrel
        have p1 := cell_below HBW.out a1
        have q1 := cell_below HBW.out b1
        have p1d := cell_below HBW.out.drew a1
        have q1d := cell_below HBW.out.drew b1
        have hk0 : (0 : Int) ≤ (k : Int) := by omega
        by_cases hlt : k < l.length
        · have hlt' : k < l'.length := by have := HLEN.out; omega
          obtain ⟨b, off, rfl, x0⟩ := row_cell (HR.out.below HBW.out.drew) hlt
          obtain ⟨b', off', rfl, x1⟩ := row_cell (HR'.out.below HBW.out.drew) hlt'
          have ex : getW l k = l[k] := by simp [getW, hlt]
          have ex' : getW l' k = l'[k] := by simp [getW, hlt']
          obtain ⟨x, hx⟩ : ∃ x, x = getW l k := ⟨_, rfl⟩
          obtain ⟨x', hx'⟩ : ∃ x, x = getW l' k := ⟨_, rfl⟩
          rw [← hx] at x0
          rw [← hx'] at x1
          have HX := Lib.hid (And.intro (hx.trans ex) (hx'.trans ex'))
          have hk1 : (k : Int) < (l.length : Int) := by omega
          have hk2 : (k : Int) < (l'.length : Int) := by omega
          clear hx hx' ex ex'
          by_cases hxx : x = x'
          · subst hxx
            have hxf : ((x : Int) != (x : Int)) = false := by simp
            have htk := take_eq_succ hlt hlt' HT.out (by rw [← HX.out.1, ← HX.out.2])
            have HTK := Lib.hid htk
            clear htk
            go_wp2_with fail
            go_region
            all_goals
              go_wp2
              go_roundw
              case rel => exact ⟨k + 1, hlt, by go_num, HTK.out, HBW.out.drew⟩
              case measure => simp [intOf]; omega
          · have e : zeq g g l l' = false := by
              unfold zeq
              rw [decide_eq_false_iff_not]
              rintro ⟨_, rfl⟩
              exact hxx (by rw [HX.out.1, HX.out.2])
            have HE := Lib.hid e
            have hxf : ((x : Int) != (x' : Int)) = true := by rw [bne_iff_ne]; omega
            have hxn : (x != x') = true := by rw [bne_iff_ne]; exact hxx
            clear e hxx
            go_wp2_with fail
            go_region
            all_goals
              go_wp2
              go_ret
              exact ⟨below_next HB.out HBW.out.drew, by rw [HE.out]; rfl⟩
        · obtain rfl : k = l.length := by omega
          have e : zeq g g l l' = true := by
            unfold zeq
            rw [decide_eq_true_iff]
            have h1 := HT.out
            rw [List.take_length, HLEN.out, List.take_length] at h1
            exact ⟨rfl, h1⟩
          have HE := Lib.hid e
          clear e
          go_wp2
          go_ret
          exact ⟨below_next HB.out HBW.out, by rw [HE.out]; rfl⟩
    · have e : zeq g g l l' = false := by
        unfold zeq
        rw [decide_eq_false_iff_not]
        rintro ⟨_, rfl⟩
        exact hlen rfl
      have HE := Lib.hid e
      have hle : ((l.length : Int) != (l'.length : Int)) = true := by rw [bne_iff_ne]; omega
      have hgg : (g != g) = false := by simp
      clear e hlen
      go_wp2
      go_ret
      exact ⟨HB.out, by rw [HE.out]; rfl⟩
  · have e : zeq g g' l l' = false := by
      unfold zeq
      rw [decide_eq_false_iff_not]
      rintro ⟨h, _⟩
      exact hg h
    have HE := Lib.hid e
    clear e
    cases g <;> cases g'
    · exact absurd rfl hg
    · go_wp2
      go_ret
      exact ⟨HB.out, by rw [HE.out]; rfl⟩
    · go_wp2
      go_ret
      exact ⟨HB.out, by rw [HE.out]; rfl⟩
    · exact absurd rfl hg

theorem num_inj {p q : Rat} (h1 : decide (p.num < 0) = decide (q.num < 0)) (h2 : dig p.num.natAbs = dig q.num.natAbs) (h3 : dig (if p.den = 1 then 0 else p.den) = dig (if q.den = 1 then 0 else q.den)) : p = q := by
  have e2 : p.num.natAbs = q.num.natAbs := by rw [← nv_dig p.num.natAbs, h2, nv_dig]
  have e3 : (if p.den = 1 then 0 else p.den) = (if q.den = 1 then 0 else q.den) := by rw [← nv_dig (if p.den = 1 then 0 else p.den), h3, nv_dig]
  have hn : p.num = q.num := by
    have h4 : (p.num < 0) ↔ (q.num < 0) := decide_eq_decide.1 h1
    omega
  have hd : p.den = q.den := by
    have hp := p.den_pos
    have hq := q.den_pos
    by_cases a : p.den = 1 <;> by_cases b : q.den = 1 <;> simp [a, b] at e3 <;> omega
  exact Rat.ext hn hd

set_option maxRecDepth 100000 in
set_option maxHeartbeats 2000000 in
theorem is_calls (ok ok' : Nat → Option Obj → Prop) (a b c d a' b' c' d' : Value) (p q : Rat) (w : World) (h : Kd.qc.rel ok w p [a, b, c, d]) (h' : Kd.qc.rel ok' w q [a', b', c', d']) :
    Calls Tryz.prog 51 #[.agg #[a, b, c, d], .agg #[a', b', c', d']] w fun e w' => Below w.heap.size w w' ∧ e = .returned (.bool (decide (p = q))) := by
  obtain ⟨A, x, B, y, hv, r1, r2⟩ := h
  obtain ⟨A', x', B', y', hv', r1', r2'⟩ := h'
  simp only [List.cons.injEq, and_true] at hv hv'
  obtain ⟨rfl, rfl, rfl, rfl⟩ := hv
  obtain ⟨rfl, rfl, rfl, rfl⟩ := hv'
  obtain ⟨s, hs⟩ : ∃ s, s = decide (p.num < 0) := ⟨_, rfl⟩
  obtain ⟨s', hs'⟩ : ∃ s, s = decide (q.num < 0) := ⟨_, rfl⟩
  obtain ⟨l, hl⟩ : ∃ l, l = dig p.num.natAbs := ⟨_, rfl⟩
  obtain ⟨l', hl'⟩ : ∃ l, l = dig q.num.natAbs := ⟨_, rfl⟩
  obtain ⟨m, hm⟩ : ∃ m, m = dig (if p.den = 1 then 0 else p.den) := ⟨_, rfl⟩
  obtain ⟨m', hm'⟩ : ∃ m, m = dig (if q.den = 1 then 0 else q.den) := ⟨_, rfl⟩
  have HEQ : Hid ((p = q) ↔ ((s = s' ∧ l = l') ∧ m = m')) := Lib.hid (by
    subst hs hs' hl hl' hm hm'
    constructor
    · rintro rfl; exact ⟨⟨rfl, rfl⟩, rfl⟩
    · rintro ⟨⟨h1, h2⟩, h3⟩; exact num_inj h1 h2 h3)
  rw [← hl] at r1
  rw [← hl'] at r1'
  rw [← hm] at r2
  rw [← hm'] at r2'
  rw [← hs, ← hs', ← hl, ← hl', ← hm, ← hm']
  clear hs hs' hl hl' hm hm'
  obtain ⟨W, hW, g0, g1, hB, hsz⟩ := two_boxes w (.cells #[.bool s, .slice A l.length x, .bool false, .slice B m.length y] 38) (.cells #[.bool s', .slice A' l'.length x', .bool false, .slice B' m'.length y'] 38)
  have a0 : W.cell? ⟨w.heap.size, 0, none⟩ = some (.bool s) := hcell g0 0 rfl
  have a1 : W.cell? ⟨w.heap.size, 1, none⟩ = some (.slice A l.length x) := hcell g0 1 rfl
  have b0 : W.cell? ⟨w.heap.size + 1, 0, none⟩ = some (.bool s') := hcell g1 0 rfl
  have b1 : W.cell? ⟨w.heap.size + 1, 1, none⟩ = some (.slice A' l'.length x') := hcell g1 1 rfl
  have G0 := Lib.hid g0
  have G1 := Lib.hid g1
  have HB := Lib.hid hB
  have HR := Lib.hid (And.intro (r1.below hB) (r1'.below hB))
  have HS := Lib.hid (And.intro (r2.below hB) (r2'.below hB))
  clear g0 g1 hB hsz r1 r2 r1' r2'
  go_enter Tryz.func51, Tryz.ntmps51
  go_wp2_with fail
  clear hW
  refine (zsame_calls ok ok' s s' _ _ _ _ _ _ l l' _ HR.out.1 HR.out.2).mono ?_
  rintro e w1 ⟨hb1, rfl⟩
  have HB1 := Lib.hid (below_next HB.out hb1)
  have gg0 := heap_below hb1 G0.out
  have gg1 := heap_below hb1 G1.out
  have a2 : w1.cell? ⟨w.heap.size, 2, none⟩ = some (.bool false) := hcell gg0 2 rfl
  have a3 : w1.cell? ⟨w.heap.size, 3, none⟩ = some (.slice B m.length y) := hcell gg0 3 rfl
  have b2 : w1.cell? ⟨w.heap.size + 1, 2, none⟩ = some (.bool false) := hcell gg1 2 rfl
  have b3 : w1.cell? ⟨w.heap.size + 1, 3, none⟩ = some (.slice B' m'.length y') := hcell gg1 3 rfl
  have HS1 := Lib.hid (And.intro (HS.out.1.below hb1) (HS.out.2.below hb1))
  clear hb1 gg0 gg1 a0 a1 b0 b1
  obtain ⟨f, hf⟩ : ∃ f, f = zeq s s' l l' := ⟨_, rfl⟩
  rw [← hf]
  cases f with
  | true =>
    have h1 := of_decide_eq_true (show decide (s = s' ∧ l = l') = true from hf.symm)
    have HE : Hid (decide (p = q) = decide (m = m')) := Lib.hid (by rw [decide_eq_decide, HEQ.out]; exact ⟨fun h => h.2, fun h => ⟨h1, h⟩⟩)
    clear hf h1
    go_wp2_with fail
    refine (zsame_calls ok ok' false false _ _ _ _ _ _ m m' _ HS1.out.1 HS1.out.2).mono ?_
    rintro e w2 ⟨hb2, rfl⟩
    have HB2 := Lib.hid (below_next HB1.out hb2)
    have ef : zeq false false m m' = decide (m = m') := by unfold zeq; rw [decide_eq_decide]; exact ⟨fun h => h.2, fun h => ⟨rfl, h⟩⟩
    rw [ef]
    clear hb2 ef
    obtain ⟨f2, hf2⟩ : ∃ f, f = decide (m = m') := ⟨_, rfl⟩
    rw [← hf2]
    have HF2 := Lib.hid hf2
    clear hf2
    go_wp2
    go_ret
    exact ⟨HB2.out, by rw [HE.out, ← HF2.out]; rfl⟩
  | false =>
    have h1 := of_decide_eq_false (show decide (s = s' ∧ l = l') = false from hf.symm)
    have HE : Hid (decide (p = q) = false) := Lib.hid (by rw [decide_eq_false_iff_not, HEQ.out]; exact fun h => h1 h.1)
    clear hf h1
    go_wp2
    go_ret
    exact ⟨HB1.out, by rw [HE.out]; rfl⟩
#print axioms is_calls

theorem qc_cells {ok : Nat → Option Obj → Prop} {w : World} {A : Option Addr} {n c : Nat} {l : List Rat} (h : Row Kd.qc ok w (.slice A n c) l) {k : Nat} (hk : k < l.length) :
    ∃ b off x y z t, A = some ⟨b, off, none⟩ ∧ w.cell? ⟨b, off + k * 4, none⟩ = some x ∧ w.cell? ⟨b, off + k * 4 + 1, none⟩ = some y ∧ w.cell? ⟨b, off + k * 4 + 2, none⟩ = some z ∧ w.cell? ⟨b, off + k * 4 + 3, none⟩ = some t ∧ Kd.qc.rel ok w l[k] [x, y, z, t] := by
  obtain ⟨A', c', hv, hc, hm, hr⟩ := h
  simp only [Value.slice.injEq] at hv
  obtain ⟨rfl, rfl, rfl⟩ := hv
  obtain ⟨b, off, rfl, _, hj⟩ := hr (by omega)
  obtain ⟨cs, h1, h2⟩ := hj k hk
  have h1' := h1
  obtain ⟨Aq, xq, Bq, yq, rfl, _⟩ := h1'
  exact ⟨b, off, _, _, _, _, rfl, h2 0 (by simp), h2 1 (by simp), h2 2 (by simp), h2 3 (by simp), h1⟩

set_option maxRecDepth 100000 in
set_option maxHeartbeats 2000000 in
theorem rows_calls (ok ok' : Nat → Option Obj → Prop) (A A' : Option Addr) (n c n' c' : Nat) (l l' : List Rat) (w : World) (h : Row Kd.qc ok w (.slice A n c) l) (h' : Row Kd.qc ok' w (.slice A' n' c') l') :
    Calls Tryz.prog 52 #[.slice A n c, .slice A' n' c'] w fun e w' => Below w.heap.size w w' ∧ e = .returned (.bool (decide (l = l'))) := by
  obtain rfl := h.len
  obtain rfl := h'.len
  have hm := h.small
  have hm' := h'.small
  have HR := Lib.hid h
  have HR' := Lib.hid h'
  clear h h'
  go_enter Tryz.func52, Tryz.ntmps52
  by_cases hlen : l.length = l'.length
  · have hle : ((l.length : Int) != (l'.length : Int)) = false := by rw [hlen]; simp
    have HLEN := Lib.hid hlen
    clear hlen
    go_wp2_with fail
    go_loopw [5] (fun i wr => ∃ k : Nat, k ≤ l.length ∧ i = .int .i64 k ∧ Hid (l.take k = l'.take k) ∧ Hid (Below w.heap.size w wr))
      (fun i _ => l.length - (intOf i).toNat)
    case atStart => exact ⟨0, Nat.zero_le _, rfl, rfl, Below.refl _ _⟩
    case round =>
      obtain ⟨k, hk, rfl, HT, HBW⟩ := hrel
      by_cases hlt : k < l.length
      · have hlt' : k < l'.length := by have := HLEN.out; omega
        obtain ⟨b, off, x, y, z, t, rfl, x0, y0, z0, t0, hq⟩ := qc_cells (HR.out.below (below_drew HBW.out)) hlt
        obtain ⟨b', off', x', y', z', t', rfl, x1, y1, z1, t1, hq'⟩ := qc_cells (HR'.out.below (below_drew HBW.out)) hlt'
        have HQ := Lib.hid (And.intro hq hq')
        have hk0 : (0 : Int) ≤ (k : Int) := by omega
        have hk1 : (k : Int) < (l.length : Int) := by omega
        have hk2 : (k : Int) < (l'.length : Int) := by omega
        clear hq hq'
        go_wp2_with fail
        go_region_held3 (fun w' => w'.cell? ⟨b, off + k * 4, none⟩ = some x ∧ w'.cell? ⟨b, off + k * 4 + 1, none⟩ = some y ∧ w'.cell? ⟨b, off + k * 4 + 2, none⟩ = some z ∧ w'.cell? ⟨b, off + k * 4 + 3, none⟩ = some t ∧
            w'.cell? ⟨b', off' + k * 4, none⟩ = some x' ∧ w'.cell? ⟨b', off' + k * 4 + 1, none⟩ = some y' ∧ w'.cell? ⟨b', off' + k * 4 + 2, none⟩ = some z' ∧ w'.cell? ⟨b', off' + k * 4 + 3, none⟩ = some t')
          (first | with_reducible exact ⟨x0, y0, z0, t0, x1, y1, z1, t1⟩ | go_keep)
          (first
            | (go_at_call 51; refine (is_calls ok ok' x y z t x' y' z' t' l[k] l'[k] _ (by exact HQ.out.1) (by exact HQ.out.2)).mono ?_; rintro e w2 ⟨hb2, rfl⟩; have x0 := cell_below hb2 x0; have y0 := cell_below hb2 y0; have z0 := cell_below hb2 z0; have t0 := cell_below hb2 t0; have x1 := cell_below hb2 x1; have y1 := cell_below hb2 y1; have z1 := cell_below hb2 z1; have t1 := cell_below hb2 t1; have HB2 := Lib.hid (below_next (below_drew HBW.out) hb2); clear hb2))
        obtain ⟨f, hf⟩ : ∃ f, f = decide (l[k] = l'[k]) := ⟨_, rfl⟩
        rw [← hf]
        cases f with
        | true =>
          have htk := take_eq_succ hlt hlt' HT.out (of_decide_eq_true hf.symm)
          have HTK := Lib.hid htk
          clear hf htk
          go_wp2
          go_roundw
          case rel => exact ⟨k + 1, hlt, by go_num, HTK.out, HB2.out⟩
          case measure => simp [intOf]; omega
        | false =>
          have e : decide (l = l') = false := by
            have h1 := of_decide_eq_false hf.symm
            rw [decide_eq_false_iff_not]
            rintro rfl
            exact h1 rfl
          have HE := Lib.hid e
          clear hf e
          go_wp2
          go_ret
          exact ⟨HB2.out, by rw [HE.out]; rfl⟩
      · obtain rfl : k = l.length := by omega
        have e : decide (l = l') = true := by
          rw [decide_eq_true_iff]
          have h1 := HT.out
          rw [List.take_length, HLEN.out, List.take_length] at h1
          exact h1
        have HE := Lib.hid e
        clear e
        go_wp2
        go_ret
        exact ⟨HBW.out, by rw [HE.out]; rfl⟩
  · have e : decide (l = l') = false := by
      rw [decide_eq_false_iff_not]
      rintro rfl
      exact hlen rfl
    have HE := Lib.hid e
    have hle : ((l.length : Int) != (l'.length : Int)) = true := by rw [bne_iff_ne]; omega
    clear e hlen
    go_wp2
    go_ret
    exact ⟨Below.refl _ _, by rw [HE.out]; rfl⟩
#print axioms rows_calls
end Go.Proofs.YtefgadfcgdjboaaGreat
/- pylonref01: trim, halves, at, of, Least, From: what they return. No condition beyond sizes. -/
namespace Go.Proofs.YtefgadfcgdjboaaGreat
set_option linter.unusedVariables false
set_option linter.unusedSimpArgs false
open Go.RowKit

/-- A digit in base 2^16, as an int. -/
abbrev Kd.h16 : Kd Nat := Kd.flat 1 (by decide) (fun x => x < 65536) (fun x => [.int .i64 (x : Int)]) (fun _ => rfl) (fun _ v hv => by obtain rfl := List.mem_singleton.1 hv; rfl)
theorem h16_cell {ok : Nat → Option Obj → Prop} {w : World} {A : Option Addr} {n c : Nat} {l : List Nat} (h : Row Kd.h16 ok w (.slice A n c) l) {k : Nat} (hk : k < l.length) :
    ∃ b off, A = some ⟨b, off, none⟩ ∧ w.cell? ⟨b, off + k, none⟩ = some (.int .i64 ((getW l k : Nat) : Int)) ∧ getW l k < 65536 := by
  obtain ⟨A', c', hv, hc, hm, hr⟩ := h
  simp only [Value.slice.injEq] at hv
  obtain ⟨rfl, rfl, rfl⟩ := hv
  obtain ⟨b, off, rfl, _, hj⟩ := hr (by omega)
  obtain ⟨cs, ⟨rfl, h2⟩, h3⟩ := hj k hk
  have := h3 0 (by simp)
  simp only [List.getElem_cons_zero, Nat.add_zero] at this
  have e : getW l k = l[k] := by simp [getW, hk]
  rw [e]
  exact ⟨b, off, rfl, by simpa [Kd.flat] using this, h2⟩
theorem tr_take_succ {l : List Nat} {k : Nat} (hk : k < l.length) (h : getW l k = 0) : tr (l.take (k + 1)) = tr (l.take k) := by
  have e : l[k] = 0 := by simpa [getW, hk] using h
  rw [List.take_succ_eq_append_getElem hk, e, tr_snoc_zero]
theorem tr_take_last {l : List Nat} {k : Nat} (hk : k < l.length) (h : getW l k ≠ 0) : tr (l.take (k + 1)) = l.take (k + 1) := by
  have e : l[k] ≠ 0 := by simpa [getW, hk] using h
  rw [List.take_succ_eq_append_getElem hk, tr_snoc _ _ e]

set_option maxRecDepth 100000 in
set_option maxHeartbeats 1000000 in
theorem rtrim_calls (ok : Nat → Option Obj → Prop) (A : Option Addr) (n c : Nat) (l : List Nat) (w : World) (h : Row Kd.h16 ok w (.slice A n c) l) :
    Calls Tryz.prog 111 #[.slice A n c] w fun e w' => w' = w ∧ e = .returned (.slice A (tr l).length c) := by
  obtain rfl := h.len
  have hm := h.small
  obtain ⟨A', c', hv, hc, _, _⟩ := h.form
  simp only [Value.slice.injEq] at hv
  obtain ⟨rfl, _, rfl⟩ := hv
  have HR := Lib.hid h
  have hcl := hc.1
  have HC := Lib.hid hc.2
  clear h hc
  go_enter Tryz.func111, Tryz.ntmps111
  go_wp2_with fail
  go_loopw [3] (fun t wr => ∃ k : Nat, k ≤ l.length ∧ t = .int .i64 k ∧ Hid (tr (l.take k) = tr l) ∧ wr = w) (fun t _ => (intOf t).toNat)
  case atStart => exact ⟨l.length, Nat.le_refl _, rfl, by unfold Hid; rw [List.take_length], rfl⟩
  case round =>
    obtain ⟨k, hk, rfl, HT, rfl⟩ := hrel
    cases k with
    | zero =>
      have e : (tr l).length = 0 := by rw [← HT.out]; simp [tr]
      have HE := Lib.hid e
      clear e
      cases A with
      | none =>
        obtain rfl := HC.out rfl
        go_wp2
        go_ret
        exact ⟨rfl, by rw [HE.out]; rfl⟩
      | some ad =>
        go_wp2
        go_ret
        exact ⟨rfl, by rw [HE.out]; rfl⟩
    | succ k =>
      have hlt : k < l.length := by omega
      obtain ⟨b, off, rfl, hx, hxl⟩ := h16_cell HR.out hlt
      obtain ⟨x, hxd⟩ : ∃ x, x = getW l k := ⟨_, rfl⟩
      rw [← hxd] at hx hxl
      have hidx : ((k : Int) + 1 - 1) = (k : Int) := by omega
      have hj0 : (0 : Int) < (k : Int) + 1 := by omega
      have hjb : (k : Int) < (l.length : Int) := by omega
      have hj1 : (0 : Int) ≤ (k : Int) := by omega
      have hwr : IntKind.i64.wrap (k : Int) = (k : Int) := IntWalk.i64_in _ ⟨by omega, by omega⟩
      by_cases h0 : x = 0
      · have HN := Lib.hid ((tr_take_succ hlt (by rw [← hxd]; exact h0)).symm.trans HT.out)
        subst h0
        clear hxd
        go_wp2
        go_roundw
        case rel => exact ⟨k, by omega, rfl, HN.out, trivial⟩
        case measure => simp [intOf]
      · have e : (tr l).length = k + 1 := by rw [← HT.out, tr_take_last hlt (by rw [← hxd]; exact h0), List.length_take]; omega
        have HE := Lib.hid e
        have hf : ((x : Int) == 0) = false := by rw [beq_eq_false_iff_ne]; omega
        have hf2 : (x == 0) = false := by rw [beq_eq_false_iff_ne]; exact h0
        have hk1 : (k : Int) + 1 ≤ (c : Int) := by omega
        clear hxd e
        go_wp2
        go_ret
        exact ⟨rfl, by rw [HE.out]; rfl⟩
#print axioms rtrim_calls

def halvesOf (W : List Nat) : List Nat := W.flatMap fun x => [x % 65536, x / 65536]
theorem info_int : (Tryz.prog.info? 3).map (fun i => (i.zero, i.size, i.bytes)) = some (some (.int .i64 0), 1, 8) := by kernel_rfl
theorem Elems.two {ok : Nat → Option Obj → Prop} {w : World} {b c : Nat} {u v : Value} {e : TypeId} {fr : Nat × Nat} {x y : Nat} (hx : x < 65536) (hy : y < 65536) (hu : u = .int .i64 (x : Int)) (hv : v = .int .i64 (y : Int)) (h : w.heap[b]? = some (.cells #[u, v] e fr)) : Elems Kd.h16 ok w (.slice (some ⟨b, 0, none⟩) 2 c) [x, y] := by
  subst hu hv
  refine ⟨_, c, [[.int .i64 (x : Int)], [.int .i64 (y : Int)]], rfl, rfl, fun j hj hj' => ?_, fun j u hu => ?_⟩
  · rcases j with _ | _ | j
    · exact ⟨rfl, hx⟩
    · exact ⟨rfl, hy⟩
    · simp at hj; omega
  · rw [addr_add, Nat.zero_add]
    refine hcell h j ?_
    simpa using hu
theorem halves_take {W : List Nat} {k : Nat} (hk : k < W.length) : halvesOf (W.take (k + 1)) = halvesOf (W.take k) ++ [getW W k % 65536, getW W k / 65536] := by
  unfold halvesOf
  rw [List.take_succ_eq_append_getElem hk, List.flatMap_append]
  have e : getW W k = W[k] := by simp [getW, hk]
  rw [e]
  rfl

set_option maxRecDepth 100000 in
set_option maxHeartbeats 2000000 in
theorem halves_calls (ok : Nat → Option Obj → Prop) (A : Option Addr) (n c : Nat) (W : List Nat) (w : World) (h : Row Kd.u32 ok w (.slice A n c) W) (hW : W.length ≤ 1000000) :
    Calls Tryz.prog 101 #[.slice A n c] w fun e w' => Below w.heap.size w w' ∧ ∃ A' n' c', e = .returned (.slice A' n' c') ∧ Row Kd.h16 (New w.heap.size) w' (.slice A' n' c') (tr (halvesOf W)) := by
  obtain rfl := h.len
  have HR := Lib.hid h
  have HWF := Lib.hid h.wf
  clear h
  go_enter Tryz.func101, Tryz.ntmps101
  go_wp2_with fail
  go_loopw [3, 4] (fun out i wr => ∃ k : Nat, k ≤ W.length ∧ i = .int .i64 k ∧ Hid (Below w.heap.size w wr) ∧ Hid (Own Kd.h16 3 w.heap.size (fun _ _ => False) wr out (halvesOf (W.take k))) ∧ Hid ((halvesOf (W.take k)).length = 2 * k))
    (fun _ i _ => W.length - (intOf i).toNat)
  case atStart => exact ⟨0, Nat.zero_le _, rfl, Below.refl _ _, Own.nil _ _ _ _ _, rfl⟩
  case round =>
    obtain ⟨k, hk, rfl, HBW, HOWN, HLEN⟩ := hrel
    obtain ⟨Ao, co, hAo⟩ := HOWN.out.form
    rw [HLEN.out] at hAo
    subst hAo
    by_cases hlt : k < W.length
    · obtain ⟨b, off, rfl, hx⟩ := row_cell HR.out hlt
      have hts := halves_take hlt
      have hxl : getW W k < 4294967296 := by
        have e : getW W k = W[k] := by simp [getW, hlt]
        rw [e]
        exact HWF.out _ (List.getElem_mem _)
      obtain ⟨x, hxd⟩ : ∃ x, x = getW W k := ⟨_, rfl⟩
      rw [← hxd] at hx hts hxl
      have hk0 : (0 : Int) ≤ (k : Int) := by omega
      have hk1 : (k : Int) < (W.length : Int) := by omega
      obtain ⟨d0, hd0⟩ : ∃ d, d = x % 65536 := ⟨_, rfl⟩
      obtain ⟨d1, hd1⟩ : ∃ d, d = x / 65536 := ⟨_, rfl⟩
      have hl0 : d0 < 65536 := by omega
      have hl1 : d1 < 65536 := by omega
      have hw0 : IntKind.i64.wrap ((x : Int).tmod 65536) = (d0 : Int) := by
        rw [Int.tmod_eq_emod_of_nonneg (by omega), IntWalk.i64_in _ ⟨by omega, by omega⟩]; omega
      have hw1 : IntKind.i64.wrap (IntKind.u32.wrap ((x : Int) / 65536)) = (d1 : Int) := by
        have h1 : IntKind.u32.wrap ((x : Int) / 65536) = (x : Int) / 65536 := by
          simp [IntKind.wrap, IntKind.bits, IntKind.signed]; omega
        rw [h1, IntWalk.i64_in _ ⟨by omega, by omega⟩]; omega
      rw [← hd0, ← hd1] at hts
      have HTS := Lib.hid hts
      have HL := Lib.hid (And.intro hl0 hl1)
      clear hts hxd hd0 hd1 hl0 hl1
      go_wp2_with fail
      go_region_held_law (fun w' => Below w.heap.size w w' ∧ w'.cell? ⟨b, off + k, none⟩ = some (.int .u32 (x : Int)))
        ((refine (fun hBn => ⟨hBn, cell_below hBn hx⟩) ?_; (repeat (first | with_reducible exact HBX.out | with_reducible exact HBW.out | with_reducible refine bd_drew ?_ | with_reducible refine bd_alloc0 ?_ _))))
        ((refine step_append (by rfl) _ _ 138 (by rfl) _ _ (by rfl) (by rfl) _ (run_append Kd.h16 138 _ 3 _ 8 Tryz.underlying138 info_int rfl (by decide) w.heap.size (fun _ _ => False) (.slice Ao (2 * k) co) (halvesOf (W.take k)) (by first | exact HOWN.out.below (below_alloc wr _) | exact HOWN.out.below (below_drew (below_alloc wr _))) _ [d0, d1] (Elems.two HL.out.1 HL.out.2 rfl rfl (by first | exact alloc_last rfl | exact heap_drew (alloc_last rfl))) (by rw [HLEN.out]; simp; omega) (‹Below w.heap.size w _ ∧ _›).1.size) ?_; rintro v3 w3 ⟨hown3, hg3, _⟩; have HBX : Hid (Below w.heap.size w w3) := Lib.hid (below_grown (‹Below w.heap.size w _ ∧ _›).1 hg3 (fun j hj => (HOWN.out.base_le j hj).1)); have HO3 := Lib.hid hown3; clear hown3 hg3))
      go_wp2
      go_roundw
      case rel => exact ⟨k + 1, hlt, by go_num, HBX.out, by rw [HTS.out]; exact HO3.out.mono (fun _ _ h => by first | exact h | exact h.1) (fun _ _ h => h.elim), by show _ = _; rw [HTS.out, List.length_append, HLEN.out]; simp; omega⟩
      case measure => simp [intOf]; omega
    · obtain rfl : k = W.length := by omega
      rw [List.take_length] at HOWN HLEN
      have hlen3 : (halvesOf W).length ≤ 3000000 := by rw [HLEN.out]; omega
      have hrow := HOWN.out.new (m := w.heap.size) (fun _ _ h => h.elim) (Nat.le_refl _)
      have HROW := Lib.hid hrow
      clear hrow
      go_wp2_with fail
      refine (rtrim_calls _ _ _ _ (halvesOf W) _ HROW.out).mono ?_
      rintro e w2 ⟨rfl, rfl⟩
      go_wp2
      go_ret
      refine ⟨HBW.out, _, _, _, rfl, ?_⟩
      have h2 := HROW.out.take (tr (halvesOf W)).length (by rw [← HLEN.out]; exact tr_length _)
      rw [← tr_take] at h2
      exact h2
end Go.Proofs.YtefgadfcgdjboaaGreat
/- pylonref01: at, of, Least, From; pylonref02.Int: what they return. No condition beyond sizes. -/
namespace Go.Proofs.YtefgadfcgdjboaaGreat
set_option linter.unusedVariables false
set_option linter.unusedSimpArgs false
open Go.RowKit

theorem at_calls (ok : Nat → Option Obj → Prop) (A : Option Addr) (n c : Nat) (l : List Nat) (i : Nat) (w : World) (h : Row Kd.h16 ok w (.slice A n c) l) :
    Calls Tryz.prog 112 #[.slice A n c, .int .i64 (i : Int)] w fun e w' => w' = w ∧ e = .returned (.int .i64 ((getW l i : Nat) : Int)) := by
  obtain rfl := h.len
  have HR := Lib.hid h
  clear h
  go_enter Tryz.func112, Tryz.ntmps112
  by_cases hlt : i < l.length
  · obtain ⟨b, off, rfl, hx, _⟩ := h16_cell HR.out hlt
    obtain ⟨x, hxd⟩ : ∃ x, x = getW l i := ⟨_, rfl⟩
    rw [← hxd] at hx
    have HX := Lib.hid hxd
    have hi0 : (0 : Int) ≤ (i : Int) := by omega
    have hi1 : (i : Int) < (l.length : Int) := by omega
    clear hxd
    go_wp2
    go_ret
    exact ⟨rfl, by rw [← HX.out]; rfl⟩
  · have e : getW l i = 0 := by simp [getW, List.getElem?_eq_none (show l.length ≤ i by omega)]
    have HE := Lib.hid e
    have hi1 : (l.length : Int) ≤ (i : Int) := by omega
    clear e hlt
    go_wp2
    go_ret
    exact ⟨rfl, by rw [HE.out]; rfl⟩

def wordsOf : List Nat → List Nat
  | [] => []
  | [a] => [a]
  | a :: b :: r => (a + b * 65536) :: wordsOf r
theorem words_halves : ∀ (V l : List Nat), wordsOf (halvesOf V ++ l) = V ++ wordsOf l
  | [], l => rfl
  | x :: V, l => by
    have h1 := words_halves V l
    have e : halvesOf (x :: V) ++ l = x % 65536 :: x / 65536 :: (halvesOf V ++ l) := rfl
    rw [e, wordsOf, h1]
    have : x % 65536 + x / 65536 * 65536 = x := by omega
    rw [this]
    rfl
theorem words_tr (W : List Nat) : wordsOf (tr (halvesOf W)) = tr W := by
  induction hn : W.length generalizing W with
  | zero =>
    obtain rfl := List.eq_nil_of_length_eq_zero hn
    rfl
  | succ n ih =>
    rcases List.eq_nil_or_concat W with rfl | ⟨V, x, rfl⟩
    · simp at hn
    rw [List.concat_eq_append] at hn ⊢
    have hv : V.length = n := by simpa using hn
    have e : halvesOf (V ++ [x]) = halvesOf V ++ [x % 65536, x / 65536] := by simp [halvesOf, List.flatMap_append]
    rw [e]
    by_cases h0 : x = 0
    · subst h0
      have e2 : halvesOf V ++ [0 % 65536, 0 / 65536] = (halvesOf V ++ [0]) ++ [0] := by simp
      rw [e2, tr_snoc_zero, tr_snoc_zero, tr_snoc_zero, ih V hv]
    · rw [tr_snoc _ _ h0]
      by_cases h1 : x / 65536 = 0
      · have e2 : halvesOf V ++ [x % 65536, x / 65536] = (halvesOf V ++ [x]) ++ [0] := by
          rw [h1]
          have : x % 65536 = x := by omega
          rw [this]
          simp
        rw [e2, tr_snoc_zero, tr_snoc _ _ h0, words_halves]
        rfl
      · have e2 : halvesOf V ++ [x % 65536, x / 65536] = (halvesOf V ++ [x % 65536]) ++ [x / 65536] := by simp
        rw [e2, tr_snoc _ _ h1, ← e2, words_halves]
        have : x % 65536 + x / 65536 * 65536 = x := by omega
        show V ++ [x % 65536 + x / 65536 * 65536] = _
        rw [this]
theorem words_len : ∀ h : List Nat, (wordsOf h).length = (h.length + 1) / 2
  | [] => rfl
  | [_] => by simp [wordsOf]
  | a :: b :: r => by
    have := words_len r
    simp only [wordsOf, List.length_cons, this]
    omega
theorem words_get : ∀ (h : List Nat) (k : Nat) (hk : k < (wordsOf h).length), (wordsOf h)[k] = getW h (2 * k) + getW h (2 * k + 1) * 65536
  | [], k, hk => absurd hk (by simp [wordsOf])
  | [a], k, hk => by
    have : k = 0 := by simpa [wordsOf] using hk
    subst this
    simp [wordsOf, getW]
  | a :: b :: r, 0, _ => rfl
  | a :: b :: r, k + 1, hk => by
    have := words_get r k (by simpa [wordsOf] using hk)
    simp only [wordsOf, List.getElem_cons_succ, this]
    have e0 : 2 * (k + 1) = 2 * k + 1 + 1 := by omega
    rw [e0, getW_cons, getW_cons, getW_cons, getW_cons]

set_option maxRecDepth 100000 in
set_option maxHeartbeats 2000000 in
theorem rof_calls (ok : Nat → Option Obj → Prop) (g : Bool) (A : Option Addr) (n c : Nat) (h : List Nat) (w : World) (hr : Row Kd.h16 ok w (.slice A n c) h) (hl : h.length ≤ 3000000) :
    Calls Tryz.prog 100 #[.bool g, .slice A n c] w fun e w' => Below w.heap.size w w' ∧ ∃ A' c', e = .returned (.agg #[.bool (g && decide (0 < (wordsOf (tr h)).length)), .slice A' (wordsOf (tr h)).length c']) ∧ Row Kd.u32 (New w.heap.size) w' (.slice A' (wordsOf (tr h)).length c') (wordsOf (tr h)) := by
  obtain rfl := hr.len
  obtain ⟨W, hW, g0, hB, hs⟩ := one_box w (.cells #[.bool false, .slice none 0 0] 36)
  have HR := Lib.hid (hr.below hB)
  have HB := Lib.hid hB
  have G0 := Lib.hid g0
  have HS := Lib.hid hs
  have hrt := hr.take (tr h).length (tr_length h)
  rw [← tr_take] at hrt
  have HRT := Lib.hid (hrt.below hB)
  have htl := tr_length h
  clear g0 hB hs hr hrt
  go_enter Tryz.func100, Tryz.ntmps100
  go_wp2_with fail
  refine (rtrim_calls ok _ _ _ h _ HR.out).mono ?_
  rintro e w1 ⟨rfl, rfl⟩
  obtain ⟨t, htd⟩ : ∃ t, t = tr h := ⟨_, rfl⟩
  rw [← htd] at HRT htl
  rw [← htd]
  have HTD := Lib.hid htd
  clear htd
  go_wp2_with fail
  clear hW
  go_loopw [5, 6] (fun out i wr => ∃ k : Nat, k ≤ (wordsOf t).length ∧ i = .int .i64 ((2 * k : Nat) : Int) ∧ Hid (Below w1.heap.size w1 wr) ∧ Hid (Own Kd.u32 90 (w.heap.size + 1) (fun _ _ => False) wr out ((wordsOf t).take k)))
    (fun _ i _ => t.length + 1 - (intOf i).toNat)
  case atStart => exact ⟨0, Nat.zero_le _, rfl, Below.refl _ _, Own.nil _ _ _ _ _⟩
  case round =>
    obtain ⟨k, hk, rfl, HBW, HOWN⟩ := hrel
    obtain ⟨Ao, co, hAo⟩ := HOWN.out.form
    have hwl := words_len t
    by_cases hlt : k < (wordsOf t).length
    · have hlen : ((wordsOf t).take k).length = k := by rw [List.length_take]; omega
      rw [hlen] at hAo
      subst hAo
      have hts := List.take_succ_eq_append_getElem hlt
      rw [words_get t k hlt] at hts
      have hd0 : getW t (2 * k) < 65536 := (h16_cell HRT.out (k := 2 * k) (by omega)).choose_spec.choose_spec.2.2
      have hd1 : getW t (2 * k + 1) < 65536 := by
        by_cases h2 : 2 * k + 1 < t.length
        · exact (h16_cell HRT.out (k := 2 * k + 1) h2).choose_spec.choose_spec.2.2
        · simp [getW, List.getElem?_eq_none (show t.length ≤ 2 * k + 1 by omega)]
      obtain ⟨i, hi⟩ : ∃ i, i = 2 * k := ⟨_, rfl⟩
      rw [← hi] at hts hd0 hd1
      rw [← hi]
      have HI := Lib.hid hi
      have hil : (i : Int) < (t.length : Int) := by omega
      have hwi : IntKind.i64.wrap ((i : Int) + 1) = ((i + 1 : Nat) : Int) := by rw [IntWalk.i64_in _ ⟨by omega, by omega⟩]; simp
      clear hi hlen hwl hlt
      go_wp2_with fail
      refine (at_calls ok _ _ _ t i _ (HRT.out.below HBW.out)).mono ?_
      rintro e w2 ⟨rfl, rfl⟩
      obtain ⟨d0, hd0d⟩ : ∃ d, d = getW t i := ⟨_, rfl⟩
      rw [← hd0d] at hts hd0
      rw [← hd0d]
      have hu0 : IntKind.u32.wrap (d0 : Int) = (d0 : Int) := by simp [IntKind.wrap, IntKind.bits, IntKind.signed]; omega
      clear hd0d
      go_wp2_with fail
      refine (at_calls ok _ _ _ t (i + 1) _ (HRT.out.below HBW.out)).mono ?_
      rintro e w3 ⟨rfl, rfl⟩
      obtain ⟨d1, hd1d⟩ : ∃ d, d = getW t (i + 1) := ⟨_, rfl⟩
      rw [← hd1d] at hts hd1
      rw [← hd1d]
      have hu1 : IntKind.u32.wrap (d1 : Int) = (d1 : Int) := by simp [IntKind.wrap, IntKind.bits, IntKind.signed]; omega
      have hu2 : IntKind.u32.wrap ((d1 : Int) * 65536) = (d1 : Int) * 65536 := by simp [IntKind.wrap, IntKind.bits, IntKind.signed]; omega
      obtain ⟨x, hx⟩ : ∃ x, x = d0 + d1 * 65536 := ⟨_, rfl⟩
      have hu3 : IntKind.u32.wrap ((d0 : Int) + (d1 : Int) * 65536) = (x : Int) := by simp [IntKind.wrap, IntKind.bits, IntKind.signed]; omega
      rw [← hx] at hts
      have hxl : x < 4294967296 := by omega
      have HTS := Lib.hid hts
      have HXL := Lib.hid hxl
      clear hts hx hxl hd0 hd1 hd1d
      go_wp2_with (first | (at_builtin; refine wp_append Kd.u32 rfl _ _ 34 rfl 90 _ 4 Tryz.underlying34 info_u32 rfl (by decide) (w.heap.size + 1) (fun _ _ => False) _ ((wordsOf t).take k) rfl ?hown _ [x] rfl ?hel ?hby ?hba ?_) | go_in)
      case hown => exact HOWN.out.below (below_alloc _ _)
      case hel => exact Elems.one (cs := #[.int .u32 (x : Int)]) ⟨rfl, HXL.out⟩ (alloc_last rfl)
      case hby =>
        have h1 : ((wordsOf t).take k).length ≤ k := by rw [List.length_take]; omega
        have h2 := words_len t
        have h3 : ([x] : List Nat).length = 1 := rfl
        omega
      case hba => have h1 := HBW.out.size; have h2 := HS.out; simp; omega
      intro v' w4 hown4 hg4 _
      have HO4 := Lib.hid hown4
      have HB4 : Hid (Below w1.heap.size w1 w4) := Lib.hid (below_grown (below_next HBW.out (below_alloc _ _)) hg4 (fun j hj => by have h1 := (HOWN.out.base_le j hj).1; have h2 := HS.out; omega))
      have hwi2 : IntKind.i64.wrap ((i : Int) + 2) = ((i + 2 : Nat) : Int) := by rw [IntWalk.i64_in _ ⟨by omega, by omega⟩]; simp
      clear hown4 hg4
      go_wp2
      go_roundw
      case rel =>
        have hi := HI.out
        have h4 := HO4.out
        rw [← HTS.out] at h4
        have e2 : i + 2 = 2 * (k + 1) := by omega
        exact ⟨k + 1, by have := words_len t; omega, by rw [← e2]; first | rfl | simp, HB4.out, h4⟩
      case measure => simp [intOf]; omega
    · have hkk : (wordsOf t).take k = wordsOf t := List.take_of_length_le (by omega)
      rw [hkk] at hAo HOWN
      subst hAo
      obtain ⟨W, hWd⟩ : ∃ W, W = wordsOf t := ⟨_, rfl⟩
      rw [← hWd] at HOWN
      rw [← hWd]
      obtain ⟨i, hi⟩ : ∃ i, i = 2 * k := ⟨_, rfl⟩
      rw [← hi]
      have hge : (t.length : Int) ≤ (i : Int) := by omega
      have hg := heap_below HBW.out G0.out
      have z0 : wr.cell? ⟨w.heap.size, 0, none⟩ = some (.bool false) := hcell hg 0 rfl
      have z1 : wr.cell? ⟨w.heap.size, 1, none⟩ = some (.slice none 0 0) := hcell hg 1 rfl
      have f0 := hfree hg 0
      have f1 := hfree hg 1
      have hrow := HOWN.out.new (m := w.heap.size + 1) (fun _ _ h => h.elim) (Nat.le_refl _)
      have HROW := Lib.hid hrow
      have HFIN : Hid (Below w.heap.size w wr) := Lib.hid (below_next HB.out HBW.out)
      have HWD := Lib.hid hWd
      clear hkk hWd hi hg hrow hwl hk hlt
      cases g with
      | false =>
        go_wp2
        refine bodyPost_ret (v := .agg #[.bool false, .slice Ao W.length co]) (by simp [results, Tryz.results100, go_sem, z0, z1]) rfl ?_
        rw [← HTD.out, ← HWD.out]
        exact ⟨two_stores HFIN.out (Nat.le_refl _), _, _, rfl, (HROW.out.two (n0 := w.heap.size) (by omega)).new (by omega)⟩
      | true =>
        go_wp2
        refine bodyPost_ret (v := .agg #[.bool (decide (0 < W.length)), .slice Ao W.length co]) (by simp [results, Tryz.results100, go_sem, z0, z1]) rfl ?_
        rw [← HTD.out, ← HWD.out]
        exact ⟨two_stores HFIN.out (Nat.le_refl _), _, _, rfl, (HROW.out.two (n0 := w.heap.size) (by omega)).new (by omega)⟩
#print axioms rof_calls
end Go.Proofs.YtefgadfcgdjboaaGreat
/- pylonref01: Least, From; pylonref02.Int: what they return. No condition beyond sizes. -/
namespace Go.Proofs.YtefgadfcgdjboaaGreat
set_option linter.unusedVariables false
set_option linter.unusedSimpArgs false
open Go.RowKit

theorem far2 {w : World} {x y : Value} {n0 b o : Nat} (h : ¬ n0 = b) : ((w.setCell ⟨n0, 0, none⟩ x).setCell ⟨n0, 1, none⟩ y).cell? ⟨b, o, none⟩ = w.cell? ⟨b, o, none⟩ :=
  (World.cell?_setCell_far _ _ _ _ h).trans (World.cell?_setCell_far _ _ _ _ h)
theorem halves_len (W : List Nat) : (halvesOf W).length = 2 * W.length := by
  induction W with
  | nil => rfl
  | cons x V ih =>
    have e : halvesOf (x :: V) = x % 65536 :: x / 65536 :: halvesOf V := rfl
    rw [e]; simp only [List.length_cons, ih]; omega

set_option maxRecDepth 100000 in
set_option maxHeartbeats 2000000 in
theorem rleast_calls (ok : Nat → Option Obj → Prop) (g : Bool) (A : Option Addr) (n c : Nat) (W : List Nat) (w : World) (h : Row Kd.u32 ok w (.slice A n c) W) (hl : W.length ≤ 1000000) :
    Calls Tryz.prog 86 #[.agg #[.bool g, .slice A n c]] w fun e w' => Below w.heap.size w w' ∧ ∃ A' c', e = .returned (.agg #[.bool (g && decide (0 < (tr W).length)), .slice A' (tr W).length c']) ∧ Row Kd.u32 (New w.heap.size) w' (.slice A' (tr W).length c') (tr W) := by
  obtain rfl := h.len
  obtain ⟨X, hX, g0, g1, hB, hs⟩ := two_boxes w (.cells #[.bool g, .slice A W.length c] 36) (.cells #[.bool false, .slice none 0 0] 36)
  have a0 : X.drew.cell? ⟨w.heap.size, 0, none⟩ = some (.bool g) := hcell (heap_drew g0) 0 rfl
  have a1 : X.drew.cell? ⟨w.heap.size, 1, none⟩ = some (.slice A W.length c) := hcell (heap_drew g0) 1 rfl
  have HR := Lib.hid (h.below hB).drew
  have HB := Lib.hid hB
  have HS := Lib.hid hs
  have G1 := Lib.hid g1
  have hne : ¬ w.heap.size + 1 = w.heap.size := by omega
  clear h g0 g1 hB hs
  go_enter Tryz.func86, Tryz.ntmps86
  go_wp2_with fail
  clear hX
  go_region_held3 (fun w' => w'.cell? ⟨w.heap.size, 0, none⟩ = some (.bool g) ∧ w'.cell? ⟨w.heap.size, 1, none⟩ = some (.slice A W.length c))
    (first | with_reducible exact ⟨a0, a1⟩ | exact ⟨(far2 hne).trans a0, (far2 hne).trans a1⟩ | go_keep)
    (first
      | (go_at_call 101; refine (halves_calls ok _ _ _ W _ (by exact HR.out) hl).mono ?_; rintro e w1 ⟨hb1, Ah, nh, ch, rfl, hr1⟩; have a0 := cell_below hb1 a0; have a1 := cell_below hb1 a1; have HB1 := Lib.hid hb1; have HR1 := Lib.hid hr1; clear hb1 hr1)
      | (go_at_call 100; refine (rof_calls _ g _ _ _ (tr (halvesOf W)) _ (by exact HR1.out) (by have h1 := tr_length (halvesOf W); have h2 := halves_len W; omega)).mono ?_; rintro e w2 ⟨hb2, Ao, co, rfl, hr2⟩; have e3 : wordsOf (tr (tr (halvesOf W))) = tr W := (by rw [show tr (tr (halvesOf W)) = tr (halvesOf W) from tr_tr _, words_tr]); rw [e3] at hr2; rw [e3]; have a0 := cell_below hb2 a0; have a1 := cell_below hb2 a1; have gg := heap_below hb2 (heap_below HB1.out (heap_drew G1.out)); have z0 : w2.cell? ⟨w.heap.size + 1, 0, none⟩ = some (.bool false) := hcell gg 0 rfl; have z1 : w2.cell? ⟨w.heap.size + 1, 1, none⟩ = some (.slice none 0 0) := hcell gg 1 rfl; have f0 := hfree gg 0; have f1 := hfree gg 1; have HB2 := Lib.hid (below_next HB1.out hb2); have HR2 := Lib.hid hr2; have HS1 := Lib.hid HB1.out.size; clear hb2 hr2 e3 gg))
  go_wp2
  refine bodyPost_ret (v := .agg #[.bool (g && decide (0 < (tr W).length)), .slice Ao (tr W).length co]) (by simp [results, Tryz.results86, go_sem, z0, z1]) rfl ?_
  have h1 := HS.out
  have h2 : X.heap.size ≤ w1.heap.size := HS1.out
  exact ⟨two_stores (below_next (below_drew HB.out) HB2.out) (by omega), _, _, rfl, (HR2.out.two (n0 := w.heap.size + 1) (by omega)).new (by omega)⟩
#print axioms rleast_calls

theorem two_row {m b n0 : Nat} {W : World} (hm : m ≤ 9223372036854775808) (hb : n0 ≤ b) (hh : W.heap[b]? = some (.cells #[.int .u32 ((m : Int) % 4294967296), .int .u32 ((m : Int) / 4294967296)] 90 (0, 0))) :
    Row Kd.u32 (New n0) W (.slice (some ⟨b, 0, none⟩) 2 2) [m % 4294967296, m / 4294967296] :=
  row_of_block (K := Kd.u32) (enc := fun x : Nat => .int .u32 (x : Int)) _ [m % 4294967296, m / 4294967296] rfl (fun ok x hx => ⟨rfl, by
      simp only [List.mem_cons, List.not_mem_nil, or_false] at hx
      rcases hx with rfl | rfl
      · exact Nat.mod_lt _ (by decide)
      · show m / 4294967296 < 4294967296; omega⟩) hh (fun j hj => by
      match j, hj with
      | 0, _ => rfl
      | 1, _ => rfl) hb (by simp) (by simp)
theorem two_dig {m : Nat} (hm : m ≤ 9223372036854775808) : tr [m % 4294967296, m / 4294967296] = dig m := by
  rw [tr_eq_dig (fun x hx => by
    simp only [List.mem_cons, List.not_mem_nil, or_false] at hx
    rcases hx with rfl | rfl
    · exact Nat.mod_lt _ (by decide)
    · omega), nv_two]
  congr 1
  omega

set_option maxRecDepth 100000 in
set_option maxHeartbeats 1000000 in
theorem rfrom_calls (z : Int) (w : World) (hz : I64 z) :
    Calls Tryz.prog 73 #[.int .i64 z] w fun e w' => Below w.heap.size w w' ∧ ∃ r, e = .returned r ∧ ZC w.heap.size w' r z := by
  obtain ⟨hz1, hz2⟩ := hz
  have hp : 0 < z.natAbs → 0 < (dig z.natAbs).length := by intro hm; rw [dig_pos (by omega)]; simp
  have HP := Lib.hid hp
  clear hp
  by_cases hneg : z < 0
  · have HZ := Lib.hid (HP.out (by omega))
    have e1 : IntKind.u64.wrap (-IntKind.u64.wrap z) = (z.natAbs : Int) := by
      rw [IntKind.wrap_u64, IntKind.wrap_u64]; omega
    go_enter Tryz.func73, Tryz.ntmps73
    go_wp2_with fail
    refine (rleast_calls (New (w.heap.size + 1)) _ _ _ _ [z.natAbs % 4294967296, z.natAbs / 4294967296] _ ?hrow (by simp)).mono ?_
    case hrow => exact two_row (by omega) (by omega) (alloc_last (by simp))
    rintro e w1 ⟨hb, A', c', rfl, hr⟩
    have hB := Lib.hid (below_next (below_alloc2 w _ _) hb)
    rw [two_dig (by omega)] at hr ⊢
    have g0 := heap_below hb (alloc_elder (alloc_last (w := w) (o := .cells #[.bool false, .slice none 0 0] 36) rfl))
    have c0 := hcell g0 0 rfl
    have c1 := hcell g0 1 rfl
    have f0 := hfree g0 0
    have f1 := hfree g0 1
    clear g0 hb
    have HR := Lib.hid hr
    clear hr
    go_wp2
    refine bodyPost_ret (v := .agg #[.bool true, .slice A' (dig z.natAbs).length c']) (by simp [results, Tryz.results73, go_sem, c0, c1]; exact HZ.out) rfl ?_
    exact ⟨two_stores hB.out (Nat.le_refl _), _, rfl, A', c', by simp [hneg], (HR.out.two (by simp only [World.size_alloc]; omega)).new (by simp only [World.size_alloc]; omega)⟩
  · have hneg' : decide (z < 0) = false := by simpa using hneg
    have e1 : IntKind.u64.wrap z = (z.natAbs : Int) := by
      rw [IntKind.wrap_u64]; omega
    go_enter Tryz.func73, Tryz.ntmps73
    go_wp2_with fail
    refine (rleast_calls (New (w.heap.size + 1)) _ _ _ _ [z.natAbs % 4294967296, z.natAbs / 4294967296] _ ?hrow (by simp)).mono ?_
    case hrow => exact two_row (by omega) (by omega) (alloc_last (by simp))
    rintro e w1 ⟨hb, A', c', rfl, hr⟩
    have hB := Lib.hid (below_next (below_alloc2 w _ _) hb)
    rw [two_dig (by omega)] at hr ⊢
    have g0 := heap_below hb (alloc_elder (alloc_last (w := w) (o := .cells #[.bool false, .slice none 0 0] 36) rfl))
    have c0 := hcell g0 0 rfl
    have c1 := hcell g0 1 rfl
    have f0 := hfree g0 0
    have f1 := hfree g0 1
    clear g0 hb
    have HR := Lib.hid hr
    clear hr
    go_wp2
    refine bodyPost_ret (v := .agg #[.bool false, .slice A' (dig z.natAbs).length c']) (by simp [results, Tryz.results73, go_sem, c0, c1]) rfl ?_
    exact ⟨two_stores hB.out (Nat.le_refl _), _, rfl, A', c', by simp; omega, (HR.out.two (by simp only [World.size_alloc]; omega)).new (by simp only [World.size_alloc]; omega)⟩
#print axioms rfrom_calls

set_option maxRecDepth 100000 in
set_option maxHeartbeats 1000000 in
theorem rint_calls (z : Int) (w : World) (hz : I64 z) :
    Calls Tryz.prog 50 #[.int .i64 z] w fun e w' => Below w.heap.size w w' ∧ ∃ r, e = .returned r ∧ QC w.heap.size w' r (z : Rat) := by
  go_enter Tryz.func50, Tryz.ntmps50
  go_wp2_with fail
  refine (rfrom_calls z _ hz).mono ?_
  rintro e w1 ⟨hb, r, rfl, hr⟩
  obtain ⟨t, A, m, c, rfl, HR⟩ := hr.open
  clear hr
  have hB := Lib.hid (below_next (below_alloc w _) hb)
  have g0 := heap_below hb (alloc_last (w := w) (o := .cells #[.bool false, .slice none 0 0, .bool false, .slice none 0 0] 38) rfl)
  have c0 := hcell g0 0 rfl
  have c1 := hcell g0 1 rfl
  have c2 := hcell g0 2 rfl
  have c3 := hcell g0 3 rfl
  have f0 := hfree g0 0
  have f1 := hfree g0 1
  have f2 := hfree g0 2
  have f3 := hfree g0 3
  clear g0 hb
  go_wp2
  refine bodyPost_ret (v := .agg #[.bool t, .slice A m c, .bool false, .slice none 0 0]) (by simp [results, Tryz.results50, go_sem, c0, c1, c2, c3]) rfl ?_
  exact ⟨four_stores hB.out (Nat.le_refl _), _, rfl, QC.stored (QC.of1 (q := (z : Rat)) (by simpa using HR.out) (by simp)) (by omega) (by omega)⟩
#print axioms rint_calls
end Go.Proofs.YtefgadfcgdjboaaGreat
/- The helper shares of the stack laws: where Share and Cost return the given values it returns true. -/
namespace Go.Proofs.YtefgadfcgdjboaaGreat
set_option linter.unusedVariables false
set_option linter.unusedSimpArgs false
open Go.RowKit

theorem Kd.relb {α : Type} (K : Kd α) {ok : Nat → Option Obj → Prop} {w w' : World} {x : α} {cs : List Value} (h : K.rel ok w x cs) (hb : Below w.heap.size w w') : K.rel ok w' x cs :=
  K.mono (fun _ _ h => h.1) (K.keep (w' := w') (fun k hk => by
    have h2 : w.heap[k]? = some w.heap[k] := Array.getElem?_eq_some_iff.2 ⟨hk.2.1, rfl⟩
    rw [h2]; exact heap_below hb h2) (K.live h))

set_option maxRecDepth 100000 in
set_option maxHeartbeats 4000000 in
theorem shares_calls (ok ok2 : Nat → Option Obj → Prop) (A : Option Addr) (n c : Nat) (s : List Lv) (q cost : Int) (A2 : Option Addr) (n2 c2 : Nat) (row : List Int) (w : World) (h : Row Kd.level ok w (.slice A n c) s) (h2 : Row Kd.i64 ok2 w (.slice A2 n2 c2) row)
    (hq : q < 4294967296) (hq0 : 0 ≤ q) (hc : I64 cost) (hl : row.length ≤ 1000) (hs : shareR s ((q : Int) : Rat) = (row.map (fun z => ((z : Int) : Rat)), 0)) (hcs : costR s ((q : Int) : Rat) = (((cost : Int) : Rat), 0)) :
    Calls Tryz.prog 29 #[.slice A n c, .int .i64 q, .int .i64 cost, .slice A2 n2 c2] w fun e w' => Below w.heap.size w w' ∧ e = .returned (.bool true) := by
  obtain rfl := h2.len
  have hqi : I64 q := ⟨by omega, by omega⟩
  have HQI := Lib.hid hqi
  have HF := Lib.hid (fits_int (z := q) (by omega))
  have HQ0 := Lib.hid (show (0 : Rat) ≤ ((q : Int) : Rat) from by exact_mod_cast hq0)
  have HR := Lib.hid h
  have HR2 := Lib.hid h2
  obtain ⟨RW, hRW⟩ : ∃ RW, RW = row.map (fun z => ((z : Int) : Rat)) := ⟨_, rfl⟩
  rw [← hRW] at hs
  have hrl : RW.length = row.length := by rw [hRW, List.length_map]
  have HRW := Lib.hid hRW
  have HRL := Lib.hid hrl
  have HS := Lib.hid hs
  have HCS := Lib.hid hcs
  have HC := Lib.hid hc
  clear h h2 hs hcs hc hq hq0 hqi hRW hrl
  go_enter Tryz.func29, Tryz.ntmps29
  go_wp2_with fail
  refine (rint_calls q _ HQI.out).mono ?_
  rintro e w1 ⟨hb1, r1, rfl, hr1⟩
  obtain ⟨t1, B1, m1, d1, s1, C1, j1, k1, rfl, HQ1⟩ := hr1.open
  have HB1 := Lib.hid hb1
  clear hb1 hr1
  go_wp2_with fail
  refine (share_calls ok _ _ _ s _ _ 1 _ (HR.out.below HB1.out) (HQ1.out.qin HF.out).any (by decide) (by decide) HQ0.out).mono ?_
  rintro e w2 ⟨hb2, v2, rfl, hr2⟩
  rw [HS.out] at hr2 ⊢
  simp only at hr2
  obtain ⟨X2, x2, rfl, _⟩ := hr2.form
  have HB2 := Lib.hid (below_next HB1.out hb2)
  have HX := Lib.hid hr2
  clear hb2 hr2
  go_wp2_with fail
  refine (rint_calls q _ HQI.out).mono ?_
  rintro e w3 ⟨hb3, r3, rfl, hr3⟩
  obtain ⟨t3, B3, m3, d3, s3, C3, j3, k3, rfl, HQ3⟩ := hr3.open
  have HB3 := Lib.hid (below_next HB2.out hb3)
  have HX3 := Lib.hid (HX.out.below hb3)
  clear hb3 hr3
  go_wp2_with fail
  refine (cost_calls ok _ _ _ s _ _ 1 _ (HR.out.below HB3.out) (HQ3.out.qin HF.out).any (by decide) (by decide) HQ0.out).mono ?_
  rintro e w4 ⟨hb4, v4, rfl, hr4⟩
  rw [HCS.out] at hr4 ⊢
  obtain ⟨t4, B4, m4, d4, s4, C4, j4, k4, rfl, HQ4⟩ := hr4.open
  have HB4 := Lib.hid (below_next HB3.out hb4)
  have HX4 := Lib.hid (HX3.out.below hb4)
  clear hb4 hr4
  simp only at HQ4
  go_wp2_with fail
  have g0 := alloc_last (w := w4) (k := w4.heap.size) (o := .cells #[.bool t4, .slice B4 m4 d4, .bool s4, .slice C4 j4 k4] 38) rfl
  obtain ⟨wb, hwb⟩ : ∃ wb, wb = w4.alloc (.cells #[.bool t4, .slice B4 m4 d4, .bool s4, .slice C4 j4 k4] 38) := ⟨_, rfl⟩
  have hbx := bd_alloc0 HB4.out (.cells #[.bool t4, .slice B4 m4 d4, .bool s4, .slice C4 j4 k4] 38)
  have hx5 := HX4.out.below (below_alloc w4 (.cells #[.bool t4, .slice B4 m4 d4, .bool s4, .slice C4 j4 k4] 38))
  have hq5 := HQ4.out.below (below_alloc w4 (.cells #[.bool t4, .slice B4 m4 d4, .bool s4, .slice C4 j4 k4] 38))
  rw [← hwb] at g0 hbx hx5 hq5 ⊢
  have G0 := Lib.hid g0
  have HBX := Lib.hid hbx
  have HX5 := Lib.hid hx5
  have HQ5 := Lib.hid hq5
  have HRb := Lib.hid (HR2.out.below hbx)
  clear g0 hbx hx5 hq5 hwb HX4 HQ4
  go_loopw [13, 14] (fun out i wr => ∃ (k : Nat) (okk : Nat → Option Obj → Prop), k ≤ row.length ∧ i = .int .i64 k ∧ Hid (Below wb.heap.size wb wr) ∧ Hid (Own Kd.qc 38 wb.heap.size okk wr out (RW.take k)) ∧ Hid (∀ b o, okk b o → New wb.heap.size b o))
    (fun _ i _ => row.length - (intOf i).toNat)
  case atStart => exact ⟨0, fun _ _ => False, Nat.zero_le _, rfl, Below.refl _ _, Own.nil _ _ _ _ _, fun _ _ h => h.elim⟩
  case round =>
    obtain ⟨k, okk, hk, rfl, HBW, HOWN, HOK⟩ := hrel
    obtain ⟨Ao, co, hAo⟩ := HOWN.out.form
    by_cases hlt : k < row.length
    · have hkl : k < RW.length := by rw [HRL.out]; exact hlt
      have hlen : (RW.take k).length = k := by rw [List.length_take]; omega
      rw [hlen] at hAo
      subst hAo
      obtain ⟨b, off, rfl, hq, iq⟩ := i64_cell (HRb.out.below HBW.out) hlt
      have hts := List.take_succ_eq_append_getElem hkl
      obtain ⟨z, hzd⟩ : ∃ z, z = row[k] := ⟨_, rfl⟩
      have hzz : RW[k] = (z : Rat) := by simp only [HRW.out, List.getElem_map, hzd]
      rw [← hzd] at hq iq
      rw [hzz] at hts
      have HTS := Lib.hid hts
      have HIQ := Lib.hid iq
      have hk0 : (0 : Int) ≤ (k : Int) := by omega
      have hk1 : (k : Int) < (row.length : Int) := by omega
      clear hts hzz hzd iq hlen
      go_wp2_with fail
      refine (rint_calls z _ HIQ.out).mono ?_
      rintro e w5 ⟨hb5, r5, rfl, hr5⟩
      obtain ⟨t5, B5, m5, d5, s5, C5, j5, k5, rfl, HQ5⟩ := hr5.open
      have hown5 := HOWN.out.below hb5
      have HB5 := Lib.hid (below_next HBW.out hb5)
      have hsz5 := hb5.size
      have HOWN5 : Hid (Own Kd.qc 38 wb.heap.size (NewBut wb.heap.size (.slice Ao k co)) w5 (.slice Ao k co) (RW.take k)) := Lib.hid (hown5.mono (fun b o h => ⟨HOK.out b o h, HOWN.out.apart b o h⟩) (fun _ _ h => h.2))
      have hrel5 : Kd.qc.rel (NewBut wb.heap.size (.slice Ao k co)) w5 (z : Rat) [.bool t5, .slice B5 m5 d5, .bool s5, .slice C5 j5 k5] := Kd.qc.mono (fun j o hj => ⟨⟨by have := hj.1; have := HBW.out.size; omega, hj.2⟩, fun e => by have := (HOWN.out.base_le j e).2; have := hj.1; omega⟩) HQ5.out.rel
      have HREL5 := Lib.hid hrel5
      clear hb5 hr5 hown5 hsz5 hrel5 hq
      go_wp2_with (at_builtin; refine wp_append Kd.qc rfl _ _ 31 rfl 38 _ 64 Tryz.underlying31 info_q rfl (by decide) wb.heap.size (NewBut wb.heap.size (.slice Ao k co)) _ (RW.take k) rfl ?hown _ [(z : Rat)] rfl ?hel ?hby ?hba ?_)
      case hown => exact HOWN5.out.below (below_alloc _ _)
      case hel => exact Elems.one (cs := #[.bool t5, .slice B5 m5 d5, .bool s5, .slice C5 j5 k5]) (Kd.relb Kd.qc HREL5.out (below_alloc _ _)) (alloc_last rfl)
      case hby => simp; omega
      case hba => have := HB5.out.size; simp; omega
      intro v6 w6 hown6 hg6 hat6
      have HO6 := Lib.hid hown6
      have HBR : Hid (Below wb.heap.size wb w6) := Lib.hid (below_grown (bd_alloc0 HB5.out _) hg6 (fun j hj => (HOWN.out.base_le j hj).1))
      clear hown6 hg6 hat6
      go_wp2
      go_roundw
      case rel =>
        have h4 := HO6.out
        rw [← HTS.out] at h4
        exact ⟨k + 1, _, hlt, by go_num, HBR.out, h4, fun b o h => h.1.1⟩
      case measure => simp [intOf]; omega
    · have hkk : RW.take k = RW := List.take_of_length_le (by rw [HRL.out]; omega)
      rw [hkk] at hAo HOWN
      subst hAo
      obtain rfl : k = row.length := by omega
      have g1 := heap_below HBW.out G0.out
      have a0 : wr.drew.cell? ⟨w4.heap.size, 0, none⟩ = some (.bool t4) := hcell (heap_drew g1) 0 rfl
      have a1 : wr.drew.cell? ⟨w4.heap.size, 1, none⟩ = some (.slice B4 m4 d4) := hcell (heap_drew g1) 1 rfl
      have a2 : wr.drew.cell? ⟨w4.heap.size, 2, none⟩ = some (.bool s4) := hcell (heap_drew g1) 2 rfl
      have a3 : wr.drew.cell? ⟨w4.heap.size, 3, none⟩ = some (.slice C4 j4 k4) := hcell (heap_drew g1) 3 rfl
      have HR7 := Lib.hid (HX5.out.below (below_drew HBW.out))
      have HO7 := Lib.hid (HOWN.out.row.below (below_drew (Below.refl _ _)))
      have HQ7 := Lib.hid ((HQ5.out.below (below_drew HBW.out)).rel)
      have HB7 := Lib.hid (below_next HBX.out HBW.out)
      clear g1 hkk HX5 HOWN HQ5
      go_wp2_with fail
      go_region_held3 (fun w' => w'.cell? ⟨w4.heap.size, 0, none⟩ = some (.bool t4) ∧ w'.cell? ⟨w4.heap.size, 1, none⟩ = some (.slice B4 m4 d4) ∧ w'.cell? ⟨w4.heap.size, 2, none⟩ = some (.bool s4) ∧ w'.cell? ⟨w4.heap.size, 3, none⟩ = some (.slice C4 j4 k4))
        (first | with_reducible exact ⟨a0, a1, a2, a3⟩ | go_keep)
        (first
          | (go_at_call 50; refine (rint_calls cost _ HC.out).mono ?_; rintro e w8 ⟨hb8, r8, rfl, hr8⟩; obtain ⟨t8, B8, m8, d8, s8, C8, j8, k8, rfl, HQ8⟩ := hr8.open; have a0 := cell_below hb8 a0; have a1 := cell_below hb8 a1; have a2 := cell_below hb8 a2; have a3 := cell_below hb8 a3; have HB8 := Lib.hid hb8; clear hb8 hr8)
          | (go_at_call 51; refine (is_calls (New w3.heap.size) (New wr.drew.heap.size) _ _ _ _ _ _ _ _ ((cost : Int) : Rat) ((cost : Int) : Rat) _ (by exact Kd.relb Kd.qc HQ7.out HB8.out) (by exact HQ8.out.rel)).mono ?_; rintro e w9 ⟨hb9, he⟩; rw [decide_eq_true rfl] at he; subst he; have HB9 := Lib.hid (below_next HB8.out hb9); have a0 := cell_below hb9 a0; have a1 := cell_below hb9 a1; have a2 := cell_below hb9 a2; have a3 := cell_below hb9 a3; clear hb9)
          | (go_at_call 52; refine (rows_calls (New w1.heap.size) _ _ _ _ _ _ _ RW RW _ (by exact HR7.out.below HB9.out) (by exact HO7.out.below HB9.out)).mono ?_; rintro e w10 ⟨hb10, he⟩; rw [decide_eq_true rfl] at he; subst he; have HB10 := Lib.hid (below_next HB9.out hb10); have a0 := cell_below hb10 a0; have a1 := cell_below hb10 a1; have a2 := cell_below hb10 a2; have a3 := cell_below hb10 a3; clear hb10))
      go_wp2
      go_ret
      exact ⟨below_next (below_drew HB7.out) HB10.out, rfl⟩
#print axioms shares_calls
end Go.Proofs.YtefgadfcgdjboaaGreat
/- Plain: the values of the chapter's examples. No condition. -/
namespace Go.Proofs.YtefgadfcgdjboaaGreat
set_option linter.unusedVariables false
set_option linter.unusedSimpArgs false

def exS : List Lv := [(1, 5, [5, 0]), (2, 3, [0, 3]), (3, 7, [4, 3])]
def exT : List Lv := [(9, 7, [4, 3]), (2, 4, [4, 0])]
theorem ex_s : mergeR true [[(5, 1), (4, 3)], [(3, 2), (3, 3)]] = (exS, 0, 0) := by decide +kernel
theorem ex_t : mergeR false [[(4, 9), (4, 2)], [(3, 9)]] = (exT, 0, 0) := by decide +kernel
theorem ex_s16 : shareR exS ((16 : Int) : Rat) = ([], 1) := by decide +kernel
theorem ex_s10 : shareR exS ((10 : Int) : Rat) = ([5, 5].map (fun z : Int => (z : Rat)), 0) := by decide +kernel
theorem ex_c10 : costR exS ((10 : Int) : Rat) = (((17 : Int) : Rat), 0) := by decide +kernel
theorem ex_s12 : shareR exS ((12 : Int) : Rat) = ([6, 6].map (fun z : Int => (z : Rat)), 0) := by decide +kernel
theorem ex_c12 : costR exS ((12 : Int) : Rat) = (((23 : Int) : Rat), 0) := by decide +kernel
theorem ex_t5 : shareR exT ((5 : Int) : Rat) = ([2, 3].map (fun z : Int => (z : Rat)), 0) := by decide +kernel
theorem ex_ct5 : costR exT ((5 : Int) : Rat) = (((45 : Int) : Rat), 0) := by decide +kernel
#print axioms ex_s
#print axioms ex_s10
end Go.Proofs.YtefgadfcgdjboaaGreat
/- The law helper awake: the chapter's examples hold. No condition. -/
namespace Go.Proofs.YtefgadfcgdjboaaGreat
set_option linter.unusedVariables false
set_option linter.unusedSimpArgs false
open Go.RowKit

def AnyB : Nat → Option Obj → Prop := fun _ _ => True
theorem Row.all {α : Type} {K : Kd α} {ok : Nat → Option Obj → Prop} {w : World} {v : Value} {l : List α} (h : Row K ok w v l) : Row K AnyB w v l := h.mono fun _ _ _ => trivial
theorem Row.blk {α : Type} (K : Kd α) {ok : Nat → Option Obj → Prop} {W : World} {b c n : Nat} {e : TypeId} {fr : Nat × Nat} {cs : Array Value} (l : List α) (css : List (List Value)) (hh : W.heap[b]? = some (.cells cs e fr)) (hcs : cs.toList = css.flatten) (hl : css.length = l.length)
    (hr : ∀ j (hj : j < l.length) (hj' : j < css.length), K.rel ok W l[j] css[j]) (hb : ok b W.heap[b]?) (hn : n = l.length) (hc : l.length ≤ c) (hm : l.length ≤ 140737488355328) : Row K ok W (.slice (some ⟨b, 0, none⟩) n c) l := by
  subst hn
  have hlen : ∀ x ∈ css, x.length = K.sz := by
    intro x hx
    obtain ⟨n, hn, rfl⟩ := List.getElem_of_mem hx
    exact K.len (hr n (by omega) hn)
  refine ⟨_, c, rfl, ⟨hc, fun h => by cases h⟩, hm, fun _ => ⟨b, 0, rfl, hb, fun j hj => ⟨css[j]'(by omega), hr j hj (by omega), fun i hi => ?_⟩⟩⟩
  have h1 := flatten_get css j i hlen (by omega) hi
  rw [← hcs, Array.getElem?_toList] at h1
  rw [Nat.zero_add]
  exact hcell hh _ h1
theorem ints_row {W : World} {b c n : Nat} {e : TypeId} {fr : Nat × Nat} (l : List Int) (hh : W.heap[b]? = some (.cells (l.map (fun x => Value.int .i64 x)).toArray e fr)) (hi : ∀ x ∈ l, 0 ≤ x ∧ x ≤ 1000) (hn : n = l.length) (hc : l.length ≤ c) (hm : l.length ≤ 140737488355328) : Row Kd.i64 AnyB W (.slice (some ⟨b, 0, none⟩) n c) l := by
  have e1 : ∀ l : List Int, (l.map (fun x => [Value.int .i64 x])).flatten = l.map (fun x => Value.int .i64 x) := by
    intro l
    induction l with
    | nil => rfl
    | cons a r ih => simp [ih]
  refine Row.blk Kd.i64 l (l.map (fun x => [Value.int .i64 x])) hh ?_ (by simp) (fun j hj hj' => ?_) trivial hn hc hm
  · rw [e1]
  · rw [List.getElem_map]; have := hi _ (List.getElem_mem hj); exact ⟨rfl, by omega, by omega⟩
theorem two_rows {α : Type} (K : Kd α) {W : World} {b c : Nat} {e : TypeId} {fr : Nat × Nat} {v u : Value} {l k : List α} (hh : W.heap[b]? = some (.cells #[v, u] e fr)) (h1 : Row K AnyB W v l) (h2 : Row K AnyB W u k) (hc : 2 ≤ c) : Row (Kd.slice K) AnyB W (.slice (some ⟨b, 0, none⟩) 2 c) [l, k] :=
  Row.blk (Kd.slice K) [l, k] [[v], [u]] hh rfl rfl (fun j hj hj' => by
    match j, hj with
    | 0, _ => exact ⟨v, rfl, h1⟩
    | 1, _ => exact ⟨u, rfl, h2⟩) trivial rfl hc (by simp)
theorem levels2 {W : World} {b c : Nat} {e : TypeId} {fr : Nat × Nat} {v u : Value} {p q x y : Int} {l k : List Int} (hh : W.heap[b]? = some (.cells #[.int .i64 p, .int .i64 q, v, .int .i64 x, .int .i64 y, u] e fr)) (hp : I64 p) (hq : I64 q) (hx : I64 x) (hy : I64 y) (h1 : Row Kd.i64 AnyB W v l) (h2 : Row Kd.i64 AnyB W u k) (hc : 2 ≤ c) :
    Row Kd.level AnyB W (.slice (some ⟨b, 0, none⟩) 2 c) [(p, q, l), (x, y, k)] :=
  Row.blk Kd.level [(p, q, l), (x, y, k)] [[.int .i64 p, .int .i64 q, v], [.int .i64 x, .int .i64 y, u]] hh rfl rfl (fun j hj hj' => by
    match j, hj with
    | 0, _ => exact Kd.level_mk hp hq h1
    | 1, _ => exact Kd.level_mk hx hy h2) trivial rfl hc (by simp)
theorem levels3 {W : World} {b c : Nat} {e : TypeId} {fr : Nat × Nat} {v u t : Value} {p q x y r s : Int} {l k m : List Int} (hh : W.heap[b]? = some (.cells #[.int .i64 p, .int .i64 q, v, .int .i64 x, .int .i64 y, u, .int .i64 r, .int .i64 s, t] e fr)) (hp : I64 p) (hq : I64 q) (hx : I64 x) (hy : I64 y) (hr : I64 r) (hs : I64 s)
    (h1 : Row Kd.i64 AnyB W v l) (h2 : Row Kd.i64 AnyB W u k) (h3 : Row Kd.i64 AnyB W t m) (hc : 3 ≤ c) :
    Row Kd.level AnyB W (.slice (some ⟨b, 0, none⟩) 3 c) [(p, q, l), (x, y, k), (r, s, m)] :=
  Row.blk Kd.level [(p, q, l), (x, y, k), (r, s, m)] [[.int .i64 p, .int .i64 q, v], [.int .i64 x, .int .i64 y, u], [.int .i64 r, .int .i64 s, t]] hh rfl rfl (fun j hj hj' => by
    match j, hj with
    | 0, _ => exact Kd.level_mk hp hq h1
    | 1, _ => exact Kd.level_mk hx hy h2
    | 2, _ => exact Kd.level_mk hr hs h3) trivial rfl hc (by simp)
theorem i64_small {x : Int} (h0 : 0 ≤ x) (h1 : x ≤ 1000) : I64 x := ⟨by omega, by omega⟩

set_option maxRecDepth 100000 in
set_option maxHeartbeats 4000000 in
theorem awake_calls (w : World) :
    Calls Tryz.prog 7 #[] w fun e w' => Below w.heap.size w w' ∧ e = .returned (.bool true) := by
  go_enter Tryz.func7, Tryz.ntmps7
  go_wp2_with fail
  refine (curve_calls AnyB _ _ _ [5, 1, 4, 3] _ (ints_row [5, 1, 4, 3] (alloc_last rfl) (by decide) rfl (by simp) (by simp)) (by simp)).mono ?_
  rintro e w1 ⟨hb1, A1, n1, c1, rfl, hr1⟩
  have K1 := Lib.hid hr1.all
  have HB := Lib.hid (below_next (bd_alloc0 (Below.refl _ _) _) hb1)
  clear hb1
  go_wp2_with fail
  refine (curve_calls AnyB _ _ _ [3, 2, 3, 3] _ (ints_row [3, 2, 3, 3] (alloc_last rfl) (by decide) rfl (by simp) (by simp)) (by simp)).mono ?_
  rintro e w2 ⟨hb2, A2, n2, c2, rfl, hr2⟩
  have K1 := Lib.hid ((K1.out.below (below_alloc _ _)).below hb2)
  have K2 := Lib.hid hr2.all
  have HB := Lib.hid (below_next (bd_alloc0 HB.out _) hb2)
  clear hb2
  go_wp2_with fail
  refine (offers_calls AnyB _ _ _ [_, _] _ (two_rows Kd.step (alloc_last rfl) (K1.out.below (below_alloc _ _)) (K2.out.below (below_alloc _ _)) (by simp))).mono ?_
  rintro e w3 ⟨hb3, vS, iS, erS, lS, rfl, hmS, hvS⟩
  rw [show mergeR true [pairsOf [5, 1, 4, 3], pairsOf [3, 2, 3, 3]] = _ from ex_s] at hmS
  simp only [Prod.mk.injEq] at hmS
  obtain ⟨rfl, rfl, rfl⟩ := hmS
  obtain ⟨AS, cS, rfl, _⟩ := hvS.form
  have K1 := Lib.hid ((K1.out.below (below_alloc _ _)).below hb3)
  have K2 := Lib.hid ((K2.out.below (below_alloc _ _)).below hb3)
  have S := Lib.hid hvS.all
  have HB := Lib.hid (below_next (bd_alloc0 HB.out _) hb3)
  clear hb3
  go_wp2_with fail
  clear K1 K2
  refine (curve_calls AnyB _ _ _ [4, 9, 4, 2] _ (ints_row [4, 9, 4, 2] (alloc_last rfl) (by decide) rfl (by simp) (by simp)) (by simp)).mono ?_
  rintro e w4 ⟨hb4, A3, n3, c3, rfl, hr3⟩
  have S := Lib.hid ((S.out.below (below_alloc _ _)).below hb4)
  have K3 := Lib.hid hr3.all
  have HB := Lib.hid (below_next (bd_alloc0 HB.out _) hb4)
  clear hb4
  go_wp2_with fail
  refine (curve_calls AnyB _ _ _ [3, 9] _ (ints_row [3, 9] (alloc_last rfl) (by decide) rfl (by simp) (by simp)) (by simp)).mono ?_
  rintro e w5 ⟨hb5, A4, n4, c4, rfl, hr4⟩
  have S := Lib.hid ((S.out.below (below_alloc _ _)).below hb5)
  have K3 := Lib.hid ((K3.out.below (below_alloc _ _)).below hb5)
  have K4 := Lib.hid hr4.all
  have HB := Lib.hid (below_next (bd_alloc0 HB.out _) hb5)
  clear hb5
  go_wp2_with fail
  refine (bids_calls AnyB _ _ _ [_, _] _ (two_rows Kd.step (alloc_last rfl) (K3.out.below (below_alloc _ _)) (K4.out.below (below_alloc _ _)) (by simp))).mono ?_
  rintro e w6 ⟨hb6, vT, iT, erT, lT, rfl, hmT, hvT⟩
  rw [show mergeR false [pairsOf [4, 9, 4, 2], pairsOf [3, 9]] = _ from ex_t] at hmT
  simp only [Prod.mk.injEq] at hmT
  obtain ⟨rfl, rfl, rfl⟩ := hmT
  obtain ⟨AT, cT, rfl, _⟩ := hvT.form
  have S := Lib.hid ((S.out.below (below_alloc _ _)).below hb6)
  have K3 := Lib.hid ((K3.out.below (below_alloc _ _)).below hb6)
  have K4 := Lib.hid ((K4.out.below (below_alloc _ _)).below hb6)
  have T := Lib.hid hvT.all
  have HB := Lib.hid (below_next (bd_alloc0 HB.out _) hb6)
  clear hb6
  go_wp2_with fail
  clear K3 K4
  refine (ffrom_calls 16 _ (i64_small (by decide) (by decide))).mono ?_
  rintro e w7 ⟨hb7, r16, rfl, hq16⟩
  obtain ⟨t6, A6, m6, d6, s6, B6, j6, e6, rfl, HQ6⟩ := hq16.open
  have S := Lib.hid (S.out.below hb7)
  have T := Lib.hid (T.out.below hb7)
  have HB := Lib.hid (below_next HB.out hb7)
  clear hb7
  go_wp2_with fail
  refine (share_calls AnyB _ _ _ exS _ _ 1 _ S.out (HQ6.out.qin (fits_int (by decide))).any (by decide) (by decide) (by decide +kernel)).mono ?_
  rintro e w8 ⟨hb8, v16, rfl, hr16⟩
  rw [ex_s16] at hr16 ⊢
  obtain ⟨A16, c16, rfl, _⟩ := hr16.form
  have S := Lib.hid (S.out.below hb8)
  have T := Lib.hid (T.out.below hb8)
  have HB := Lib.hid (below_next HB.out hb8)
  clear hb8
  go_wp2_with fail
  refine (told_calls AnyB _ _ _ exS _ S.out (by decide) (by decide)).mono ?_
  rintro e w9 ⟨hb9, AP1, nP1, cP1, rfl, hP1⟩
  have S := Lib.hid (S.out.below hb9)
  have T := Lib.hid (T.out.below hb9)
  have P1 := Lib.hid hP1.all
  have HB := Lib.hid (below_next HB.out hb9)
  clear hb9
  go_wp2_with fail
  refine (lawlevel_calls 1 5 _ _ _ _).mono ?_
  rintro e w10 ⟨hb10, rfl⟩
  have S := Lib.hid ((S.out.below (below_alloc _ _)).below hb10)
  have T := Lib.hid ((T.out.below (below_alloc _ _)).below hb10)
  have P1 := Lib.hid ((P1.out.below (below_alloc _ _)).below hb10)
  have L1 := Lib.hid ((ints_row (c := 2) [5, 0] (alloc_last rfl) (by decide) rfl (by simp) (by simp)).below hb10)
  have HB := Lib.hid (below_next (bd_alloc0 HB.out _) hb10)
  clear hb10
  go_wp2_with fail
  refine (lawlevel_calls 2 3 _ _ _ _).mono ?_
  rintro e w11 ⟨hb11, rfl⟩
  have S := Lib.hid ((S.out.below (below_alloc _ _)).below hb11)
  have T := Lib.hid ((T.out.below (below_alloc _ _)).below hb11)
  have P1 := Lib.hid ((P1.out.below (below_alloc _ _)).below hb11)
  have L1 := Lib.hid ((L1.out.below (below_alloc _ _)).below hb11)
  have L2 := Lib.hid ((ints_row (c := 2) [0, 3] (alloc_last rfl) (by decide) rfl (by simp) (by simp)).below hb11)
  have HB := Lib.hid (below_next (bd_alloc0 HB.out _) hb11)
  clear hb11
  go_wp2_with fail
  refine (lawlevel_calls 3 7 _ _ _ _).mono ?_
  rintro e w12 ⟨hb12, rfl⟩
  have S := Lib.hid ((S.out.below (below_alloc _ _)).below hb12)
  have T := Lib.hid ((T.out.below (below_alloc _ _)).below hb12)
  have P1 := Lib.hid ((P1.out.below (below_alloc _ _)).below hb12)
  have L1 := Lib.hid ((L1.out.below (below_alloc _ _)).below hb12)
  have L2 := Lib.hid ((L2.out.below (below_alloc _ _)).below hb12)
  have L3 := Lib.hid ((ints_row (c := 2) [4, 3] (alloc_last rfl) (by decide) rfl (by simp) (by simp)).below hb12)
  have HB := Lib.hid (below_next (bd_alloc0 HB.out _) hb12)
  clear hb12
  go_wp2_with fail
  refine (told_calls AnyB _ _ _ exS _ (levels3 (alloc_last rfl) (i64_small (by decide) (by decide)) (i64_small (by decide) (by decide)) (i64_small (by decide) (by decide)) (i64_small (by decide) (by decide)) (i64_small (by decide) (by decide)) (i64_small (by decide) (by decide)) (L1.out.below (below_alloc _ _)) (L2.out.below (below_alloc _ _)) (L3.out.below (below_alloc _ _)) (by simp)) (by decide) (by decide)).mono ?_
  rintro e w13 ⟨hb13, AP2, nP2, cP2, rfl, hP2⟩
  have S := Lib.hid ((S.out.below (below_alloc _ _)).below hb13)
  have T := Lib.hid ((T.out.below (below_alloc _ _)).below hb13)
  have P1 := Lib.hid ((P1.out.below (below_alloc _ _)).below hb13)
  have L1 := Lib.hid ((L1.out.below (below_alloc _ _)).below hb13)
  have L2 := Lib.hid ((L2.out.below (below_alloc _ _)).below hb13)
  have L3 := Lib.hid ((L3.out.below (below_alloc _ _)).below hb13)
  have P2 := Lib.hid hP2.all
  have HB := Lib.hid (below_next (bd_alloc0 HB.out _) hb13)
  clear hb13
  go_wp2_with fail
  clear L1 L2 L3
  refine (same_calls AnyB _ _ _ _ _ _ exS exS _ P1.out P2.out).mono ?_
  rintro e w14 ⟨hb14, he⟩
  rw [decide_eq_true rfl] at he
  subst he
  have S := Lib.hid (S.out.below hb14)
  have T := Lib.hid (T.out.below hb14)
  have P1 := Lib.hid (P1.out.below hb14)
  have P2 := Lib.hid (P2.out.below hb14)
  have HB := Lib.hid (below_next HB.out hb14)
  clear hb14
  go_wp2_with fail
  clear P1 P2
  refine (shares_calls AnyB AnyB _ _ _ exS 10 17 _ _ _ [5, 5] _ (S.out.below (below_alloc _ _)) (ints_row [5, 5] (alloc_last rfl) (by decide) rfl (by simp) (by simp)) (by decide) (by decide) (i64_small (by decide) (by decide)) (by decide) ex_s10 ex_c10).mono ?_
  rintro e w15 ⟨hb15, rfl⟩
  have S := Lib.hid ((S.out.below (below_alloc _ _)).below hb15)
  have T := Lib.hid ((T.out.below (below_alloc _ _)).below hb15)
  have HB := Lib.hid (below_next (bd_alloc0 HB.out _) hb15)
  clear hb15
  go_wp2_with fail
  refine (shares_calls AnyB AnyB _ _ _ exS 12 23 _ _ _ [6, 6] _ (S.out.below (below_alloc _ _)) (ints_row [6, 6] (alloc_last rfl) (by decide) rfl (by simp) (by simp)) (by decide) (by decide) (i64_small (by decide) (by decide)) (by decide) ex_s12 ex_c12).mono ?_
  rintro e w16 ⟨hb16, rfl⟩
  have S := Lib.hid ((S.out.below (below_alloc _ _)).below hb16)
  have T := Lib.hid ((T.out.below (below_alloc _ _)).below hb16)
  have HB := Lib.hid (below_next (bd_alloc0 HB.out _) hb16)
  clear hb16
  go_wp2_with fail
  refine (told_calls AnyB _ _ _ exT _ T.out (by decide) (by decide)).mono ?_
  rintro e w17 ⟨hb17, AP3, nP3, cP3, rfl, hP3⟩
  have S := Lib.hid (S.out.below hb17)
  have T := Lib.hid (T.out.below hb17)
  have P3 := Lib.hid hP3.all
  have HB := Lib.hid (below_next HB.out hb17)
  clear hb17
  go_wp2_with fail
  refine (lawlevel_calls 9 7 _ _ _ _).mono ?_
  rintro e w18 ⟨hb18, rfl⟩
  have S := Lib.hid ((S.out.below (below_alloc _ _)).below hb18)
  have T := Lib.hid ((T.out.below (below_alloc _ _)).below hb18)
  have P3 := Lib.hid ((P3.out.below (below_alloc _ _)).below hb18)
  have L4 := Lib.hid ((ints_row (c := 2) [4, 3] (alloc_last rfl) (by decide) rfl (by simp) (by simp)).below hb18)
  have HB := Lib.hid (below_next (bd_alloc0 HB.out _) hb18)
  clear hb18
  go_wp2_with fail
  refine (lawlevel_calls 2 4 _ _ _ _).mono ?_
  rintro e w19 ⟨hb19, rfl⟩
  have S := Lib.hid ((S.out.below (below_alloc _ _)).below hb19)
  have T := Lib.hid ((T.out.below (below_alloc _ _)).below hb19)
  have P3 := Lib.hid ((P3.out.below (below_alloc _ _)).below hb19)
  have L4 := Lib.hid ((L4.out.below (below_alloc _ _)).below hb19)
  have L5 := Lib.hid ((ints_row (c := 2) [4, 0] (alloc_last rfl) (by decide) rfl (by simp) (by simp)).below hb19)
  have HB := Lib.hid (below_next (bd_alloc0 HB.out _) hb19)
  clear hb19
  go_wp2_with fail
  refine (told_calls AnyB _ _ _ exT _ (levels2 (alloc_last rfl) (i64_small (by decide) (by decide)) (i64_small (by decide) (by decide)) (i64_small (by decide) (by decide)) (i64_small (by decide) (by decide)) (L4.out.below (below_alloc _ _)) (L5.out.below (below_alloc _ _)) (by simp)) (by decide) (by decide)).mono ?_
  rintro e w20 ⟨hb20, AP4, nP4, cP4, rfl, hP4⟩
  have S := Lib.hid ((S.out.below (below_alloc _ _)).below hb20)
  have T := Lib.hid ((T.out.below (below_alloc _ _)).below hb20)
  have P3 := Lib.hid ((P3.out.below (below_alloc _ _)).below hb20)
  have L4 := Lib.hid ((L4.out.below (below_alloc _ _)).below hb20)
  have L5 := Lib.hid ((L5.out.below (below_alloc _ _)).below hb20)
  have P4 := Lib.hid hP4.all
  have HB := Lib.hid (below_next (bd_alloc0 HB.out _) hb20)
  clear hb20
  go_wp2_with fail
  clear L4 L5
  refine (same_calls AnyB _ _ _ _ _ _ exT exT _ P3.out P4.out).mono ?_
  rintro e w21 ⟨hb21, he⟩
  rw [decide_eq_true rfl] at he
  subst he
  have S := Lib.hid (S.out.below hb21)
  have T := Lib.hid (T.out.below hb21)
  have P3 := Lib.hid (P3.out.below hb21)
  have P4 := Lib.hid (P4.out.below hb21)
  have HB := Lib.hid (below_next HB.out hb21)
  clear hb21
  go_wp2_with fail
  clear P3 P4
  refine (shares_calls AnyB AnyB _ _ _ exT 5 45 _ _ _ [2, 3] _ (T.out.below (below_alloc _ _)) (ints_row [2, 3] (alloc_last rfl) (by decide) rfl (by simp) (by simp)) (by decide) (by decide) (i64_small (by decide) (by decide)) (by decide) ex_t5 ex_ct5).mono ?_
  rintro e w22 ⟨hb22, rfl⟩
  have S := Lib.hid ((S.out.below (below_alloc _ _)).below hb22)
  have T := Lib.hid ((T.out.below (below_alloc _ _)).below hb22)
  have HB := Lib.hid (below_next (bd_alloc0 HB.out _) hb22)
  clear hb22
  go_wp2_with fail
  go_ret
  exact ⟨HB.out, rfl⟩
#print axioms awake_calls
end Go.Proofs.YtefgadfcgdjboaaGreat
/- From the reading of an argument to a row. No condition. -/
namespace Go.Proofs.YtefgadfcgdjboaaGreat
set_option linter.unusedVariables false
set_option linter.unusedSimpArgs false
open Go.RowKit Go.ChangeShapes Go.WideShapes Go.ChangeAt Go.Deep

def Paid {H : Type} (P : Program) (t : TypeId) (d : DataW H) : Prop := ∀ n ∈ d.weights P t, n ≤ reachBytes
theorem weights_all {H : Type} {P : Program} {e : TypeId} : ∀ {elems : List (DataW H)} {i : Nat} {d : DataW H}, elems[i]? = some d → ∀ n ∈ d.weights P e, n ∈ DataW.weightsAll P e elems
  | [], _, _, h, _, _ => by simp at h
  | a :: r, 0, d, h, n, hn => by
    simp only [List.getElem?_cons_zero, Option.some.injEq] at h
    subst h
    simp only [DataW.weightsAll, List.mem_append]
    exact .inl hn
  | a :: r, i + 1, d, h, n, hn => by
    simp only [List.getElem?_cons_succ] at h
    simp only [DataW.weightsAll, List.mem_append]
    exact .inr (weights_all h n hn)
theorem paid_elem {H : Type} {P : Program} {t e : TypeId} {elems spare : List (DataW H)} (hu : P.underlying t = some (.slice e)) (h : Paid P t (.slice elems spare)) {i : Nat} {d : DataW H} (hd : elems[i]? = some d) : Paid P e d := fun n hn =>
  h n (by simp only [DataW.weights, hu, List.mem_cons, List.mem_append]; exact .inr (.inl (weights_all hd n hn)))
theorem paid_len {H : Type} {P : Program} {t e : TypeId} {elems spare : List (DataW H)} (hu : P.underlying t = some (.slice e)) (h : Paid P t (.slice elems spare)) : (elems.length + spare.length) * P.bytesOf e ≤ reachBytes :=
  h _ (by simp only [DataW.weights, hu]; exact List.mem_cons_self)

section
variable {H : Type} {enc : TypeId × Value → H} {P : Program} {w : World} {base : Nat} {spare : Nat → Bool} {held : Bool}
theorem row_of {α : Type} (K : Kd α) {t e : TypeId} (ht : P.underlying t = some (.slice e)) (hc : P.cellsOf e = K.sz) (hby : 1 ≤ P.bytesOf e)
    (hel : ∀ (fuel : Nat) (cs : List Value) (y : DataW H × List MemPlace), DataW.trod enc P w base spare held fuel e cs = some y → Paid P e y.1 → cs.length = K.sz → ∃ a : α, K.rel AnyB w a cs)
    {fuel : Nat} {cs : List Value} {x : DataW H × List MemPlace} (h : DataW.trod enc P w base spare held fuel t cs = some x) (hp : Paid P t x.1) :
    ∃ v l, cs = [v] ∧ Row K AnyB w v l := by
  rcases open_slice ht h with ⟨rfl, rfl⟩ | ⟨a, len, cap, m, n, D, Pl, rfl, hb, hlc, hcm, hm, rfl, hx⟩
  · exact ⟨_, [], rfl, Row.nil 0 none (fun _ => rfl)⟩
  have hlm : len ≤ m := by rw [hm]; split <;> omega
  have hs := paid_len ht hp
  simp only [List.length_map, List.length_range] at hs
  have hs2 : (len + (m - len)) * 1 ≤ (len + (m - len)) * P.bytesOf e := Nat.mul_le_mul_left _ hby
  have hsm : len ≤ 140737488355328 := by
    have : reachBytes ≤ 140737488355328 := by decide
    omega
  by_cases hl0 : len = 0
  · subst hl0
    exact ⟨_, [], rfl, Row.nil cap (some a) (fun h => by cases h)⟩
  obtain ⟨b, off, spot⟩ := a
  have hspot : spot = none := by
    obtain ⟨cs', h1, _⟩ := hx 0 (by omega)
    obtain ⟨_, h3, h4⟩ := World.cells?_some h1
    have hpos := K.pos
    have h5 := h4 0 (by omega)
    obtain ⟨c0, hc0⟩ : ∃ c0, cs'[0]? = some c0 := ⟨cs'[0]'(by omega), List.getElem?_eq_getElem _⟩
    rw [hc0] at h5
    have := World.cell?_spot h5
    simpa [Addr.add] using this
  subst hspot
  have key : ∀ k, k ≤ len → ∃ l : List α, l.length = k ∧ ∀ j (hj : j < l.length), ∃ cs, K.rel AnyB w l[j] cs ∧ ∀ i (hi : i < cs.length), w.cell? ⟨b, off + j * K.sz + i, none⟩ = some cs[i] := by
    intro k
    induction k with
    | zero => exact fun _ => ⟨[], rfl, fun j hj => absurd hj (by simp)⟩
    | succ k ih =>
      intro hk
      obtain ⟨l, hll, hlj⟩ := ih (by omega)
      obtain ⟨cs', h1, h2⟩ := hx k (by omega)
      obtain ⟨_, h3, h4⟩ := World.cells?_some h1
      obtain ⟨a, ha⟩ := hel n cs' _ h2 (paid_elem ht hp (i := k) (d := D k) (by rw [List.getElem?_map, List.getElem?_range (by omega)]; rfl)) (by omega)
      refine ⟨l ++ [a], by simp [hll], fun j hj => ?_⟩
      by_cases hjk : j < l.length
      · rw [List.getElem_append_left hjk]; exact hlj j hjk
      · have hjk' : j = k := by simp at hj; omega
        subst hjk'
        refine ⟨cs', ?_, fun i hi => ?_⟩
        · have e : (l ++ [a])[j] = a := by rw [List.getElem_append_right (by omega)]; simp [hll]
          rw [e]; exact ha
        · have h5 := h4 i (by omega)
          rw [add_plain, add_plain, hc, List.getElem?_eq_getElem hi] at h5
          exact h5
  obtain ⟨l, hll, hlj⟩ := key len (Nat.le_refl _)
  subst hll
  exact ⟨_, l, rfl, _, cap, rfl, ⟨hlc, fun h => by cases h⟩, hsm, fun _ => ⟨b, off, rfl, trivial, hlj⟩⟩
theorem i64_wf {z : Int} (h : (Lit.int .i64 z).wf = true) : I64 z := by
  simp only [Lit.wf, Bool.and_eq_true, decide_eq_true_eq] at h
  exact ⟨h.1, h.2⟩
/-- A []struct of two int64. -/
theorem step_rel {e : TypeId} {f0 f1 : Field} (he : P.underlying e = some (.struct #[f0, f1])) (o0 : f0.offset = 0) (o1 : f1.offset = 1) (h0 : P.underlying f0.type = some (.int .i64)) (h1 : P.underlying f1.type = some (.int .i64)) (c0 : P.cellsOf f0.type = 1) (c1 : P.cellsOf f1.type = 1)
    {fuel : Nat} {cs : List Value} {y : DataW H × List MemPlace} (h : DataW.trod enc P w base spare held fuel e cs = some y) (hl : cs.length = 2) : ∃ a : Int × Int, Kd.step.rel AnyB w a cs := by
  obtain ⟨y0, y1, n, _, _, t0, t1⟩ := trod_struct2 he h
  match cs, hl with
  | [v, u], _ =>
    rw [o0, c0] at t0
    rw [o1, c1] at t1
    simp only [List.drop_zero, List.take_succ_cons, List.take_zero, List.drop_succ_cons] at t0 t1
    obtain ⟨p, hp, _, wp⟩ := DataW.trod_int h0 t0
    obtain ⟨q, hq, _, wq⟩ := DataW.trod_int h1 t1
    simp only [List.cons.injEq, and_true] at hp hq
    subst hp hq
    exact ⟨(p, q), rfl, i64_wf wp, i64_wf wq⟩
end

/-! ### The types of this program -/
theorem ty_curves : Tryz.prog.underlying 22 = some (.slice 30) := by kernel_rfl
theorem ty_curve : Tryz.prog.underlying 30 = some (.slice 68) := by kernel_rfl
theorem cells_curve : Tryz.prog.cellsOf 30 = 1 := by kernel_rfl
theorem cells_step : Tryz.prog.cellsOf 68 = 2 := by kernel_rfl
theorem bytes_curve : Tryz.prog.bytesOf 30 = 24 := by kernel_rfl
theorem bytes_step : Tryz.prog.bytesOf 68 = 16 := by kernel_rfl
theorem ty_step : ∃ f0 f1, Tryz.prog.underlying 68 = some (.struct #[f0, f1]) ∧ f0.offset = 0 ∧ f1.offset = 1 ∧ Tryz.prog.underlying f0.type = some (.int .i64) ∧ Tryz.prog.underlying f1.type = some (.int .i64) ∧ Tryz.prog.cellsOf f0.type = 1 ∧ Tryz.prog.cellsOf f1.type = 1 :=
  ⟨_, _, Tryz.underlying68, rfl, rfl, by kernel_rfl, by kernel_rfl, by kernel_rfl, by kernel_rfl⟩

section
variable {H : Type} {enc : TypeId × Value → H} {w : World} {base : Nat} {spare : Nat → Bool} {held : Bool}
theorem curve_rel {fuel : Nat} {cs : List Value} {x : DataW H × List MemPlace} (h : DataW.trod enc Tryz.prog w base spare held fuel 30 cs = some x) (hp : Paid Tryz.prog 30 x.1) : ∃ v l, cs = [v] ∧ Row Kd.step AnyB w v l := by
  obtain ⟨f0, f1, e0, e1, e2, e3, e4, e5, e6⟩ := ty_step
  exact row_of Kd.step ty_curve cells_step (by rw [bytes_step]; decide) (fun fuel cs y hy _ hl => step_rel e0 e1 e2 e3 e4 e5 e6 hy hl) h hp
theorem curves_rel {fuel : Nat} {cs : List Value} {x : DataW H × List MemPlace} (h : DataW.trod enc Tryz.prog w base spare held fuel 22 cs = some x) (hp : Paid Tryz.prog 22 x.1) : ∃ v L, cs = [v] ∧ Row Kd.curve AnyB w v L :=
  row_of Kd.curve ty_curves cells_curve (by rw [bytes_curve]; decide) (fun fuel cs y hy hpy _ => let ⟨v, l, h1, h2⟩ := curve_rel hy hpy; ⟨l, v, h1, h2⟩) h hp
end
#print axioms curves_rel
end Go.Proofs.YtefgadfcgdjboaaGreat
