/- The helper at of the stack laws: the quantity of the level at a price. No condition beyond sizes. -/
import Derived.Test.YtoiakikfehfklaaK7
import Derived.Test.YtoiakikfehfklaaAddPK
namespace Go.Proofs.Ytoiakikfehfklaa
set_option linter.unusedVariables false
set_option linter.unusedSimpArgs false
open Go.RowKit

theorem atP_take {s : List Lv} {p : Int} {k : Nat} (hk : k < s.length) : atP (s.take (k + 1)) p = atP (s.take k) p + (if (lvAt s k).1 = p then (lvAt s k).2.1 else 0) := by
  rw [List.take_succ_eq_append_getElem hk, atP_snoc, lvAt_eq hk]
theorem atP_le {s : List Lv} {p : Int} (h : ∀ x ∈ s, 0 ≤ x.2.1 ∧ x.2.1 ≤ 16000000) : ∀ k, k ≤ s.length → 0 ≤ atP (s.take k) p ∧ atP (s.take k) p ≤ 16000000 * k
  | 0, _ => by simp [atP]
  | k + 1, hk => by
    have h1 := atP_le (p := p) h k (by omega)
    have h2 := h s[k] (List.getElem_mem _)
    rw [atP_take (by omega), lvAt_eq (by omega)]
    split <;> omega

set_option maxRecDepth 100000 in
set_option maxHeartbeats 2000000 in
theorem at_price (ok : Nat → Option Obj → Prop) (A : Option Addr) (n c : Nat) (s : List Lv) (pr : Int) (w : World) (h : Row Kd.level ok w (.slice A n c) s) (hl : s.length ≤ 48) (hq : ∀ x ∈ s, 0 ≤ x.2.1 ∧ x.2.1 ≤ 16000000) :
    Calls Try.prog 8 #[.slice A n c, .int .i64 pr] w fun e w' => w' = w ∧ e = .returned (.int .i64 (atP s pr)) := by
  obtain rfl := h.len
  have HR := Lib.hid h
  have HQ := Lib.hid hq
  clear h hq
  go_enter Try.func8, Try.ntmps8
  go_wp2_with fail
  go_loop [5, 6] (fun a i => ∃ (k : Nat) (x : Int), k ≤ s.length ∧ a = .int .i64 x ∧ i = .int .i64 k ∧ Hid (x = atP (s.take k) pr))
    (fun _ i => s.length - (intOf i).toNat)
  case atStart => exact ⟨0, 0, Nat.zero_le _, rfl, rfl, rfl⟩
  case round =>
    obtain ⟨k, x, hkl, rfl, rfl, HX⟩ := hrel
    by_cases hlt : k < s.length
    · obtain ⟨b, off, Ap, cp, rfl, y0, y1, y2, ip, iq, _⟩ := level_cell HR.out hlt
      have hx1 := atP_take (p := pr) hlt
      have hxb := atP_le (p := pr) HQ.out k hkl
      have hqb := HQ.out s[k] (List.getElem_mem _)
      rw [← lvAt_eq hlt] at hqb
      obtain ⟨⟨p, qq, l⟩, hxd⟩ : ∃ z, z = lvAt s k := ⟨_, rfl⟩
      rw [← hxd] at y0 y1 y2 hx1 hqb
      simp only at y0 y1 hx1 hqb
      rw [← HX.out] at hx1 hxb
      obtain ⟨h1, h2⟩ := hxb
      obtain ⟨h3, h4⟩ := hqb
      have hk0 : (0 : Int) ≤ (k : Int) := by omega
      have hk1 : (k : Int) < (s.length : Int) := by omega
      have hwx : IntKind.i64.wrap (x + qq) = x + qq := IntWalk.i64_in _ ⟨by omega, by omega⟩
      by_cases he : p = pr
      · rw [if_pos he] at hx1
        have HX1 := Lib.hid hx1
        subst he
        clear hx1 hxd ip iq y2
        go_wp2
        go_round
        case rel => exact ⟨k + 1, x + qq, by omega, rfl, by go_num, HX1.out.symm⟩
        case measure => simp [intOf]; omega
      · rw [if_neg he, Int.add_zero] at hx1
        have HX1 := Lib.hid hx1
        have hne : (p == pr) = false := by rw [beq_eq_false_iff_ne]; exact he
        clear hx1 hxd ip iq y2 he
        go_wp2
        go_round
        case rel => exact ⟨k + 1, x, by omega, rfl, by go_num, HX1.out.symm⟩
        case measure => simp [intOf]; omega
    · obtain rfl : k = s.length := by omega
      have hx2 : atP s pr = x := by rw [HX.out, List.take_length]
      have HX2 := Lib.hid hx2
      clear hx2
      go_wp2
      go_ret
      exact ⟨rfl, by rw [HX2.out]; rfl⟩
#print axioms at_price
end Go.Proofs.Ytoiakikfehfklaa
