/- Several texts of my own, joined. No condition beyond what each theorem states. -/
import Derived.Test.YtlaemhigmgmgjaaGreatK0
import Derived.Laws.EntriesVeiled
import Derived.Test.YtlaemhigmgmgjaaGreatK3
/- step: CheckOffer, CheckBid: what they return. No condition. (Printed by tools/step1.py.) -/
namespace Go.Proofs.YtlaemhigmgmgjaaGreat
set_option linter.unusedVariables false
set_option linter.unusedSimpArgs false
open Go.RowKit

theorem step_cell {ok : Nat → Option Obj → Prop} {w : World} {A : Option Addr} {n c : Nat} {l : List (Int × Int)} (h : Row Kd.step ok w (.slice A n c) l) {k : Nat} (hk : k < l.length) :
    ∃ b off, A = some ⟨b, off, none⟩ ∧ w.cell? ⟨b, off + k * 2, none⟩ = some (.int .i64 l[k].1) ∧ w.cell? ⟨b, off + k * 2 + 1, none⟩ = some (.int .i64 l[k].2) ∧ I64 l[k].1 ∧ I64 l[k].2 := by
  obtain ⟨A', c', hv, hc, hm, hr⟩ := h
  simp only [Value.slice.injEq] at hv
  obtain ⟨rfl, rfl, rfl⟩ := hv
  obtain ⟨b, off, rfl, hb, hj⟩ := hr (by omega)
  obtain ⟨cs, ⟨rfl, h1, h2⟩, h3⟩ := hj k hk
  exact ⟨b, off, rfl, h3 0 (by simp), h3 1 (by simp), h1, h2⟩

/-- What the rounds over a curve find. -/
def scanE (after : Int → Int → Bool) : Option Int → List (Int × Int) → Int
  | _, [] => 0
  | pr, s :: r => if s.1 < 1 ∨ 1000000 < s.1 ∨ s.2 < -1000000 ∨ 1000000 < s.2 then 1 else if (match pr with | none => false | some a => !after a s.2) then 3 else scanE after (some s.2) r
def notAfter (after : Int → Int → Bool) (pr : Option Int) (p : Int) : Bool := match pr with | none => false | some a => !after a p
theorem scanE_cons (after : Int → Int → Bool) (pr : Option Int) (s : Int × Int) (r : List (Int × Int)) : scanE after pr (s :: r) = if s.1 < 1 ∨ 1000000 < s.1 ∨ s.2 < -1000000 ∨ 1000000 < s.2 then 1 else if notAfter after pr s.2 then 3 else scanE after (some s.2) r := by
  rw [scanE.eq_def]; rfl
/-- The error of a curve. -/
def curveE (after : Int → Int → Bool) (l : List (Int × Int)) : Int := if l.length = 0 then 4 else if 3 < l.length then 5 else scanE after none l
def upA (a p : Int) : Bool := decide (a < p)
def downA (a p : Int) : Bool := decide (p < a)
def prev (l : List (Int × Int)) (k : Nat) : Option Int := if k = 0 then none else (l[k - 1]?).map (·.2)

set_option maxHeartbeats 400000 in
theorem after_up (a b : Int) (w : World) : Calls Tryz.prog 71 #[.int .i64 a, .int .i64 b] w fun e w' => w' = w ∧ e = .returned (.bool (upA a b)) := by
  go_enter Tryz.func71, Tryz.ntmps71
  go_wp2
  go_ret
  exact ⟨rfl, by simp [upA]⟩
set_option maxHeartbeats 400000 in
theorem kind_up (w : World) : Calls Tryz.prog 47 #[] w fun e w' => Below w.heap.size w w' ∧ e = .returned (.agg #[.func (.func 71) #[] #[]]) := by
  go_enter Tryz.func47, Tryz.ntmps47
  go_wp2
  refine bodyPost_ret (v := .agg #[.func (.func 71) #[] #[]]) (by simp [results, Tryz.results47, go_sem]) rfl ⟨below_alloc _ _, rfl⟩

set_option maxRecDepth 100000 in
set_option maxHeartbeats 2000000 in
theorem wrong_up (ok : Nat → Option Obj → Prop) (A : Option Addr) (n c : Nat) (l : List (Int × Int)) (w : World) (h : Row Kd.step ok w (.slice A n c) l) :
    Calls Tryz.prog 46 #[.agg #[.func (.func 71) #[] #[]], .slice A n c] w fun e w' => Below w.heap.size w w' ∧ e = .returned (.int .i64 (curveE upA l)) := by
  obtain rfl := h.len
  obtain ⟨W, hW, g0, hB, hs⟩ := one_box w (.cells #[.func (.func 71) #[] #[]] 81)
  have hr := h.below hB
  have hm := h.small
  have HR := Lib.hid hr
  have HB := Lib.hid hB
  have HS := Lib.hid hs
  have G0 := Lib.hid g0
  clear h hr hB hs g0
  go_enter Tryz.func46, Tryz.ntmps46
  by_cases h0 : l.length = 0
  · have e : curveE upA l = 4 := by unfold curveE; rw [if_pos h0]
    have HE := Lib.hid e
    clear e
    go_wp2
    go_ret
    exact ⟨HB.out, by rw [HE.out]; rfl⟩
  by_cases h3 : 3 < l.length
  · have e : curveE upA l = 5 := by unfold curveE; rw [if_neg h0, if_pos h3]
    have HE := Lib.hid e
    clear e
    have hne : ((l.length : Int) == 0) = false := by rw [beq_eq_false_iff_ne]; omega
    have hgt : (3 : Int) < (l.length : Int) := by omega
    go_wp2
    go_ret
    exact ⟨HB.out, by rw [HE.out]; rfl⟩
  have e : curveE upA l = scanE upA none l := by unfold curveE; rw [if_neg h0, if_neg h3]
  have HE := Lib.hid e
  have hne : ((l.length : Int) == 0) = false := by rw [beq_eq_false_iff_ne]; omega
  have hgt : (l.length : Int) ≤ 3 := by omega
  clear e
  go_wp2_with fail
  clear hW
  go_loopw [17] (fun i wr => ∃ k : Nat, k ≤ l.length ∧ i = .int .i64 k ∧ Hid (scanE upA (prev l k) (l.drop k) = curveE upA l) ∧ Hid (Below W.heap.size W wr))
    (fun i _ => l.length - (intOf i).toNat)
  case atStart => exact ⟨0, Nat.zero_le _, rfl, HE.out.symm, Below.refl _ _⟩
  case round =>
    obtain ⟨k, hk, rfl, HI, HBW⟩ := hrel
    by_cases hlt : k < l.length
    · obtain ⟨b, off, rfl, hq, hp, iq, ip⟩ := step_cell (HR.out.below HBW.out) hlt
      have hdr := List.drop_eq_getElem_cons hlt
      have hpn : prev l (k + 1) = some l[k].2 := by unfold prev; rw [if_neg (by omega), Nat.add_sub_cancel, List.getElem?_eq_getElem hlt]; rfl
      have hI := HI.out
      rw [hdr, scanE_cons] at hI
      obtain ⟨q, hqd⟩ : ∃ q, q = l[k].1 := ⟨_, rfl⟩
      obtain ⟨p, hpd⟩ : ∃ p, p = l[k].2 := ⟨_, rfl⟩
      rw [← hqd, ← hpd] at hI
      rw [← hqd] at hq
      rw [← hpd] at hp hpn
      have HPN := Lib.hid hpn
      clear hdr hqd hpd iq ip hpn HI
      obtain ⟨Wx, hWx, gx, hBx, hsx⟩ := one_box wr (.cells #[.int .i64 q, .int .i64 p] 99)
      have HBX := Lib.hid (below_next HBW.out hBx)
      by_cases hbad : q < 1 ∨ 1000000 < q ∨ p < -1000000 ∨ 1000000 < p
      · rw [if_pos hbad] at hI
        have HE2 := Lib.hid hI.symm
        have x0 : Wx.cell? ⟨wr.heap.size, 0, none⟩ = some (.int .i64 q) := hcell gx 0 rfl
        have x1 : Wx.cell? ⟨wr.heap.size, 1, none⟩ = some (.int .i64 p) := hcell gx 1 rfl
        clear hI hBx hsx gx
        have c1 : (q < 1) ∨ (1 ≤ q ∧ 1000000 < q) ∨ (1 ≤ q ∧ q ≤ 1000000 ∧ p < -1000000) ∨ (1 ≤ q ∧ q ≤ 1000000 ∧ -1000000 ≤ p ∧ 1000000 < p) := by omega
        clear hbad
        rcases c1 with c1 | ⟨c1, c2⟩ | ⟨c1, c2, c3⟩ | ⟨c1, c2, c3, c4⟩
        all_goals
          go_wp2
          go_ret
          exact ⟨below_next HB.out HBX.out, by rw [HE2.out]; rfl⟩
      · rw [if_neg hbad] at hI
        have HI2 := Lib.hid hI
        have gb := heap_below HBX.out G0.out
        have y0 : Wx.cell? ⟨w.heap.size, 0, none⟩ = some (.func (.func 71) #[] #[]) := hcell gb 0 rfl
        have x0 : Wx.cell? ⟨wr.heap.size, 0, none⟩ = some (.int .i64 q) := hcell gx 0 rfl
        have x1 : Wx.cell? ⟨wr.heap.size, 1, none⟩ = some (.int .i64 p) := hcell gx 1 rfl
        have c1 : 1 ≤ q := by omega
        have c2 : q ≤ 1000000 := by omega
        have c3 : -1000000 ≤ p := by omega
        have c4 : p ≤ 1000000 := by omega
        clear hI hBx hsx gx gb hbad
        cases k with
        | zero =>
          have hn : scanE upA (prev l 1) (l.drop 1) = curveE upA l := by rw [← HI2.out, if_neg (by simp [prev, notAfter]), HPN.out]
          have HN := Lib.hid hn
          rw [Nat.zero_mul, Nat.add_zero] at hq hp
          clear hn
          go_wp2_with fail
          clear hWx
          go_region
          go_wp2
          go_roundw
          case rel => first | exact ⟨1, by omega, by go_num, HN.out, HBX.out.drew⟩ | exact ⟨1, by omega, by go_num, HN.out, HBX.out⟩
          case measure => simp [intOf]; omega
        | succ j =>
          have hj : j < l.length := by omega
          obtain ⟨b', off', hA', hq', hp', _, _⟩ := step_cell (HR.out.below HBX.out.drew) hj
          obtain ⟨rfl, rfl⟩ : b = b' ∧ off = off' := by simpa using hA'
          have hpr : prev l (j + 1) = some l[j].2 := by unfold prev; rw [if_neg (by omega), Nat.add_sub_cancel, List.getElem?_eq_getElem hj]; rfl
          obtain ⟨a, had⟩ : ∃ a, a = l[j].2 := ⟨_, rfl⟩
          rw [← had] at hp' hpr
          have hi2 := HI2.out
          rw [hpr] at hi2
          have HI3 := Lib.hid hi2
          have hidx : ((j : Int) + 1 - 1) = (j : Int) := by omega
          have hj0 : (0 : Int) < (j : Int) + 1 := by omega
          have hjb : (j : Int) < (l.length : Int) := by omega
          have hj1 : (0 : Int) ≤ (j : Int) := by omega
          have hwr : IntKind.i64.wrap (j : Int) = (j : Int) := IntWalk.i64_in _ ⟨by omega, by omega⟩
          clear hA' hq' had hpr hi2 HI2
          have y0' : Wx.drew.cell? ⟨w.heap.size, 0, none⟩ = some (.func (.func 71) #[] #[]) := y0
          have x1' : Wx.drew.cell? ⟨wr.heap.size, 1, none⟩ = some (.int .i64 p) := x1
          go_wp2_with fail
          clear hWx y0 x0 x1 hq hp
          go_region_held3 (fun w' => w'.cell? ⟨w.heap.size, 0, none⟩ = some (.func (.func 71) #[] #[]) ∧ w'.cell? ⟨b, off + j * 2 + 1, none⟩ = some (.int .i64 a) ∧ w'.cell? ⟨wr.heap.size, 1, none⟩ = some (.int .i64 p)) (first | with_reducible exact ⟨y0', hp', x1'⟩ | go_keep)
            (first
              | (go_at_call 71; refine (after_up a p _).mono ?_; rintro e w1 ⟨rfl, rfl⟩))
          obtain ⟨rv, hrv⟩ : ∃ rv, rv = upA a p := ⟨_, rfl⟩
          rw [← hrv]
          have HRV := Lib.hid hrv
          clear hrv
          cases rv with
          | true =>
            have hn : scanE upA (prev l (j + 1 + 1)) (l.drop (j + 1 + 1)) = curveE upA l := by rw [← HI3.out, if_neg (by simp [notAfter, ← HRV.out]), HPN.out]
            have HN := Lib.hid hn
            clear hn
            go_wp2
            go_roundw
            case rel => exact ⟨j + 1 + 1, by omega, by go_num, HN.out, HBX.out.drew⟩
            case measure => simp [intOf]; omega
          | false =>
            have e : curveE upA l = 3 := by rw [← HI3.out, if_pos (by simp [notAfter, ← HRV.out])]
            have HE2 := Lib.hid e
            clear e
            go_wp2
            go_ret
            exact ⟨below_next HB.out HBX.out.drew, by rw [HE2.out]; rfl⟩
    · obtain rfl : k = l.length := by omega
      have e : curveE upA l = 0 := by rw [← HI.out, List.drop_length]; rfl
      have HE2 := Lib.hid e
      clear e
      go_wp2
      go_ret
      exact ⟨below_next HB.out HBW.out, by rw [HE2.out]; rfl⟩

set_option maxRecDepth 100000 in
set_option maxHeartbeats 1000000 in
theorem check_up (ok : Nat → Option Obj → Prop) (A : Option Addr) (n c : Nat) (l : List (Int × Int)) (w : World) (h : Row Kd.step ok w (.slice A n c) l) :
    Calls Tryz.prog 16 #[.slice A n c] w fun e w' => Below w.heap.size w w' ∧ e = .returned (.int .i64 (curveE upA l)) := by
  have HR := Lib.hid h
  clear h
  go_enter Tryz.func16, Tryz.ntmps16
  go_wp2_with fail
  refine (kind_up _).mono ?_
  rintro e w1 ⟨hb1, rfl⟩
  have HB1 := Lib.hid hb1
  clear hb1
  go_wp2_with fail
  refine (wrong_up ok _ _ _ l _ (HR.out.below HB1.out)).mono ?_
  rintro e w2 ⟨hb2, rfl⟩
  have HB2 := Lib.hid (below_next HB1.out hb2)
  clear hb2
  go_wp2
  go_ret
  exact ⟨HB2.out, rfl⟩
#print axioms check_up

set_option maxHeartbeats 400000 in
theorem after_down (a b : Int) (w : World) : Calls Tryz.prog 70 #[.int .i64 a, .int .i64 b] w fun e w' => w' = w ∧ e = .returned (.bool (downA a b)) := by
  go_enter Tryz.func70, Tryz.ntmps70
  go_wp2
  go_ret
  exact ⟨rfl, by simp [downA]⟩
set_option maxHeartbeats 400000 in
theorem kind_down (w : World) : Calls Tryz.prog 45 #[] w fun e w' => Below w.heap.size w w' ∧ e = .returned (.agg #[.func (.func 70) #[] #[]]) := by
  go_enter Tryz.func45, Tryz.ntmps45
  go_wp2
  refine bodyPost_ret (v := .agg #[.func (.func 70) #[] #[]]) (by simp [results, Tryz.results45, go_sem]) rfl ⟨below_alloc _ _, rfl⟩

set_option maxRecDepth 100000 in
set_option maxHeartbeats 2000000 in
theorem wrong_down (ok : Nat → Option Obj → Prop) (A : Option Addr) (n c : Nat) (l : List (Int × Int)) (w : World) (h : Row Kd.step ok w (.slice A n c) l) :
    Calls Tryz.prog 46 #[.agg #[.func (.func 70) #[] #[]], .slice A n c] w fun e w' => Below w.heap.size w w' ∧ e = .returned (.int .i64 (curveE downA l)) := by
  obtain rfl := h.len
  obtain ⟨W, hW, g0, hB, hs⟩ := one_box w (.cells #[.func (.func 70) #[] #[]] 81)
  have hr := h.below hB
  have hm := h.small
  have HR := Lib.hid hr
  have HB := Lib.hid hB
  have HS := Lib.hid hs
  have G0 := Lib.hid g0
  clear h hr hB hs g0
  go_enter Tryz.func46, Tryz.ntmps46
  by_cases h0 : l.length = 0
  · have e : curveE downA l = 4 := by unfold curveE; rw [if_pos h0]
    have HE := Lib.hid e
    clear e
    go_wp2
    go_ret
    exact ⟨HB.out, by rw [HE.out]; rfl⟩
  by_cases h3 : 3 < l.length
  · have e : curveE downA l = 5 := by unfold curveE; rw [if_neg h0, if_pos h3]
    have HE := Lib.hid e
    clear e
    have hne : ((l.length : Int) == 0) = false := by rw [beq_eq_false_iff_ne]; omega
    have hgt : (3 : Int) < (l.length : Int) := by omega
    go_wp2
    go_ret
    exact ⟨HB.out, by rw [HE.out]; rfl⟩
  have e : curveE downA l = scanE downA none l := by unfold curveE; rw [if_neg h0, if_neg h3]
  have HE := Lib.hid e
  have hne : ((l.length : Int) == 0) = false := by rw [beq_eq_false_iff_ne]; omega
  have hgt : (l.length : Int) ≤ 3 := by omega
  clear e
  go_wp2_with fail
  clear hW
  go_loopw [17] (fun i wr => ∃ k : Nat, k ≤ l.length ∧ i = .int .i64 k ∧ Hid (scanE downA (prev l k) (l.drop k) = curveE downA l) ∧ Hid (Below W.heap.size W wr))
    (fun i _ => l.length - (intOf i).toNat)
  case atStart => exact ⟨0, Nat.zero_le _, rfl, HE.out.symm, Below.refl _ _⟩
  case round =>
    obtain ⟨k, hk, rfl, HI, HBW⟩ := hrel
    by_cases hlt : k < l.length
    · obtain ⟨b, off, rfl, hq, hp, iq, ip⟩ := step_cell (HR.out.below HBW.out) hlt
      have hdr := List.drop_eq_getElem_cons hlt
      have hpn : prev l (k + 1) = some l[k].2 := by unfold prev; rw [if_neg (by omega), Nat.add_sub_cancel, List.getElem?_eq_getElem hlt]; rfl
      have hI := HI.out
      rw [hdr, scanE_cons] at hI
      obtain ⟨q, hqd⟩ : ∃ q, q = l[k].1 := ⟨_, rfl⟩
      obtain ⟨p, hpd⟩ : ∃ p, p = l[k].2 := ⟨_, rfl⟩
      rw [← hqd, ← hpd] at hI
      rw [← hqd] at hq
      rw [← hpd] at hp hpn
      have HPN := Lib.hid hpn
      clear hdr hqd hpd iq ip hpn HI
      obtain ⟨Wx, hWx, gx, hBx, hsx⟩ := one_box wr (.cells #[.int .i64 q, .int .i64 p] 99)
      have HBX := Lib.hid (below_next HBW.out hBx)
      by_cases hbad : q < 1 ∨ 1000000 < q ∨ p < -1000000 ∨ 1000000 < p
      · rw [if_pos hbad] at hI
        have HE2 := Lib.hid hI.symm
        have x0 : Wx.cell? ⟨wr.heap.size, 0, none⟩ = some (.int .i64 q) := hcell gx 0 rfl
        have x1 : Wx.cell? ⟨wr.heap.size, 1, none⟩ = some (.int .i64 p) := hcell gx 1 rfl
        clear hI hBx hsx gx
        have c1 : (q < 1) ∨ (1 ≤ q ∧ 1000000 < q) ∨ (1 ≤ q ∧ q ≤ 1000000 ∧ p < -1000000) ∨ (1 ≤ q ∧ q ≤ 1000000 ∧ -1000000 ≤ p ∧ 1000000 < p) := by omega
        clear hbad
        rcases c1 with c1 | ⟨c1, c2⟩ | ⟨c1, c2, c3⟩ | ⟨c1, c2, c3, c4⟩
        all_goals
          go_wp2
          go_ret
          exact ⟨below_next HB.out HBX.out, by rw [HE2.out]; rfl⟩
      · rw [if_neg hbad] at hI
        have HI2 := Lib.hid hI
        have gb := heap_below HBX.out G0.out
        have y0 : Wx.cell? ⟨w.heap.size, 0, none⟩ = some (.func (.func 70) #[] #[]) := hcell gb 0 rfl
        have x0 : Wx.cell? ⟨wr.heap.size, 0, none⟩ = some (.int .i64 q) := hcell gx 0 rfl
        have x1 : Wx.cell? ⟨wr.heap.size, 1, none⟩ = some (.int .i64 p) := hcell gx 1 rfl
        have c1 : 1 ≤ q := by omega
        have c2 : q ≤ 1000000 := by omega
        have c3 : -1000000 ≤ p := by omega
        have c4 : p ≤ 1000000 := by omega
        clear hI hBx hsx gx gb hbad
        cases k with
        | zero =>
          have hn : scanE downA (prev l 1) (l.drop 1) = curveE downA l := by rw [← HI2.out, if_neg (by simp [prev, notAfter]), HPN.out]
          have HN := Lib.hid hn
          rw [Nat.zero_mul, Nat.add_zero] at hq hp
          clear hn
          go_wp2_with fail
          clear hWx
          go_region
          go_wp2
          go_roundw
          case rel => first | exact ⟨1, by omega, by go_num, HN.out, HBX.out.drew⟩ | exact ⟨1, by omega, by go_num, HN.out, HBX.out⟩
          case measure => simp [intOf]; omega
        | succ j =>
          have hj : j < l.length := by omega
          obtain ⟨b', off', hA', hq', hp', _, _⟩ := step_cell (HR.out.below HBX.out.drew) hj
          obtain ⟨rfl, rfl⟩ : b = b' ∧ off = off' := by simpa using hA'
          have hpr : prev l (j + 1) = some l[j].2 := by unfold prev; rw [if_neg (by omega), Nat.add_sub_cancel, List.getElem?_eq_getElem hj]; rfl
          obtain ⟨a, had⟩ : ∃ a, a = l[j].2 := ⟨_, rfl⟩
          rw [← had] at hp' hpr
          have hi2 := HI2.out
          rw [hpr] at hi2
          have HI3 := Lib.hid hi2
          have hidx : ((j : Int) + 1 - 1) = (j : Int) := by omega
          have hj0 : (0 : Int) < (j : Int) + 1 := by omega
          have hjb : (j : Int) < (l.length : Int) := by omega
          have hj1 : (0 : Int) ≤ (j : Int) := by omega
          have hwr : IntKind.i64.wrap (j : Int) = (j : Int) := IntWalk.i64_in _ ⟨by omega, by omega⟩
          clear hA' hq' had hpr hi2 HI2
          have y0' : Wx.drew.cell? ⟨w.heap.size, 0, none⟩ = some (.func (.func 70) #[] #[]) := y0
          have x1' : Wx.drew.cell? ⟨wr.heap.size, 1, none⟩ = some (.int .i64 p) := x1
          go_wp2_with fail
          clear hWx y0 x0 x1 hq hp
          go_region_held3 (fun w' => w'.cell? ⟨w.heap.size, 0, none⟩ = some (.func (.func 70) #[] #[]) ∧ w'.cell? ⟨b, off + j * 2 + 1, none⟩ = some (.int .i64 a) ∧ w'.cell? ⟨wr.heap.size, 1, none⟩ = some (.int .i64 p)) (first | with_reducible exact ⟨y0', hp', x1'⟩ | go_keep)
            (first
              | (go_at_call 70; refine (after_down a p _).mono ?_; rintro e w1 ⟨rfl, rfl⟩))
          obtain ⟨rv, hrv⟩ : ∃ rv, rv = downA a p := ⟨_, rfl⟩
          rw [← hrv]
          have HRV := Lib.hid hrv
          clear hrv
          cases rv with
          | true =>
            have hn : scanE downA (prev l (j + 1 + 1)) (l.drop (j + 1 + 1)) = curveE downA l := by rw [← HI3.out, if_neg (by simp [notAfter, ← HRV.out]), HPN.out]
            have HN := Lib.hid hn
            clear hn
            go_wp2
            go_roundw
            case rel => exact ⟨j + 1 + 1, by omega, by go_num, HN.out, HBX.out.drew⟩
            case measure => simp [intOf]; omega
          | false =>
            have e : curveE downA l = 3 := by rw [← HI3.out, if_pos (by simp [notAfter, ← HRV.out])]
            have HE2 := Lib.hid e
            clear e
            go_wp2
            go_ret
            exact ⟨below_next HB.out HBX.out.drew, by rw [HE2.out]; rfl⟩
    · obtain rfl : k = l.length := by omega
      have e : curveE downA l = 0 := by rw [← HI.out, List.drop_length]; rfl
      have HE2 := Lib.hid e
      clear e
      go_wp2
      go_ret
      exact ⟨below_next HB.out HBW.out, by rw [HE2.out]; rfl⟩

set_option maxRecDepth 100000 in
set_option maxHeartbeats 1000000 in
theorem check_down (ok : Nat → Option Obj → Prop) (A : Option Addr) (n c : Nat) (l : List (Int × Int)) (w : World) (h : Row Kd.step ok w (.slice A n c) l) :
    Calls Tryz.prog 15 #[.slice A n c] w fun e w' => Below w.heap.size w w' ∧ e = .returned (.int .i64 (curveE downA l)) := by
  have HR := Lib.hid h
  clear h
  go_enter Tryz.func15, Tryz.ntmps15
  go_wp2_with fail
  refine (kind_down _).mono ?_
  rintro e w1 ⟨hb1, rfl⟩
  have HB1 := Lib.hid hb1
  clear hb1
  go_wp2_with fail
  refine (wrong_down ok _ _ _ l _ (HR.out.below HB1.out)).mono ?_
  rintro e w2 ⟨hb2, rfl⟩
  have HB2 := Lib.hid (below_next HB1.out hb2)
  clear hb2
  go_wp2
  go_ret
  exact ⟨HB2.out, rfl⟩
#print axioms check_down
end Go.Proofs.YtlaemhigmgmgjaaGreat
/- Plain: bounds of a valid curve; what step.curve and step.Sum return. No condition. -/
namespace Go.Proofs.YtlaemhigmgmgjaaGreat
set_option linter.unusedVariables false
set_option linter.unusedSimpArgs false
open Go.RowKit

/-- Within the bounds of a step. -/
def StepIn (s : Int × Int) : Prop := 1 ≤ s.1 ∧ s.1 ≤ 1000000 ∧ -1000000 ≤ s.2 ∧ s.2 ≤ 1000000
theorem scanE_in (after : Int → Int → Bool) : ∀ (l : List (Int × Int)) (pr : Option Int), scanE after pr l = 0 → ∀ s ∈ l, StepIn s
  | [], _, _, s, hs => by simp at hs
  | t :: l, pr, h, s, hs => by
    rw [scanE_cons] at h
    by_cases hb : t.1 < 1 ∨ 1000000 < t.1 ∨ t.2 < -1000000 ∨ 1000000 < t.2
    · rw [if_pos hb] at h; omega
    · rw [if_neg hb] at h
      by_cases hn : notAfter after pr t.2 = true
      · rw [if_pos hn] at h; omega
      · rw [if_neg hn] at h
        rcases List.mem_cons.1 hs with rfl | hs
        · unfold StepIn; omega
        · exact scanE_in after l _ h s hs
theorem curveE_in {after : Int → Int → Bool} {l : List (Int × Int)} (h : curveE after l = 0) : 0 < l.length ∧ l.length ≤ 3 ∧ ∀ s ∈ l, StepIn s := by
  unfold curveE at h
  by_cases h0 : l.length = 0
  · rw [if_pos h0] at h; omega
  · rw [if_neg h0] at h
    by_cases h3 : 3 < l.length
    · rw [if_pos h3] at h; omega
    · rw [if_neg h3] at h
      exact ⟨by omega, by omega, scanE_in after l none h⟩
/-- The error of what may be either kind. -/
def eitherE (l : List (Int × Int)) : Int := if curveE downA l = 0 then 0 else curveE upA l
theorem eitherE_in {l : List (Int × Int)} (h : eitherE l = 0) : 0 < l.length ∧ l.length ≤ 3 ∧ ∀ s ∈ l, StepIn s := by
  unfold eitherE at h
  by_cases hd : curveE downA l = 0
  · exact curveE_in hd
  · rw [if_neg hd] at h; exact curveE_in h
def qtySum (l : List (Int × Int)) : Int := (l.map (·.1)).foldl (· + ·) 0
def sumE (l : List (Int × Int)) : Int := if eitherE l = 0 then qtySum l else 0

#print axioms curveE_in
end Go.Proofs.YtlaemhigmgmgjaaGreat
/- Plain: price stacks of curves, with no program in sight. No condition. -/
namespace Go.Proofs.YtlaemhigmgmgjaaGreat
set_option linter.unusedVariables false
set_option linter.unusedSimpArgs false

abbrev Crv := List (Int × Int)
abbrev Lv := Int × Int × List Int

/-- What a curve offers at a price. -/
def qAt (c : Crv) (p : Int) : Int := ((c.filter (fun s => s.2 == p)).map (·.1)).sum
def partsAt (M : List Crv) (p : Int) : List Int := M.map (fun c => qAt c p)
def lvl (M : List Crv) (p : Int) : Lv := (p, (partsAt M p).sum, partsAt M p)
def pricesOf (M : List Crv) : List Int := M.flatMap (fun c => c.map (·.2))
def afterOf (up : Bool) : Int → Int → Bool := if up then upA else downA
def insP (up : Bool) (p : Int) : List Int → List Int
  | [] => [p]
  | a :: r => if p = a then a :: r else if afterOf up p a then p :: a :: r else a :: insP up p r
def sortP (up : Bool) (l : List Int) : List Int := l.foldr (insP up) []
def stackOf (up : Bool) (M : List Crv) : List Lv := (sortP up (pricesOf M)).map (lvl M)
/-- The first curve that is refused, and why. -/
def badAt (up : Bool) : List Crv → Option (Nat × Int)
  | [] => none
  | c :: r => if curveE (afterOf up) c = 0 then (badAt up r).map (fun x => (x.1 + 1, x.2)) else some (0, curveE (afterOf up) c)
def mergeR (up : Bool) (M : List Crv) : List Lv × Int × Int :=
  if 16 < M.length then ([], 0, 5) else match badAt up M with
    | some (i, e) => ([], i, e)
    | none => (stackOf up M, 0, 0)

theorem afterOf_iff (up : Bool) (a b : Int) : afterOf up a b = true ↔ (if up then a < b else b < a) := by
  cases up <;> simp [afterOf, upA, downA]
theorem afterOf_trans {up : Bool} {a b c : Int} (h : afterOf up a b = true) (k : afterOf up b c = true) : afterOf up a c = true := by
  rw [afterOf_iff] at *; cases up <;> simp at * <;> omega
theorem afterOf_irrefl (up : Bool) (a : Int) : afterOf up a a = false := by cases up <;> simp [afterOf, upA, downA]
theorem afterOf_total {up : Bool} {a b : Int} (h : afterOf up a b = false) (hne : a ≠ b) : afterOf up b a = true := by
  cases up <;> simp [afterOf, upA, downA] at * <;> omega

theorem mem_insP {up : Bool} {p x : Int} : ∀ {l : List Int}, x ∈ insP up p l ↔ x = p ∨ x ∈ l
  | [] => by simp [insP]
  | a :: r => by
    unfold insP
    by_cases h : p = a
    · rw [if_pos h]; simp [h]
    · rw [if_neg h]
      by_cases h2 : afterOf up p a = true
      · rw [if_pos h2]; simp
      · rw [if_neg h2, List.mem_cons, mem_insP, List.mem_cons]
        constructor
        · rintro (h | h | h) <;> simp [h]
        · rintro (h | h | h) <;> simp [h]
theorem sorted_insP {up : Bool} {p : Int} : ∀ {l : List Int}, l.Pairwise (fun a b => afterOf up a b = true) → (insP up p l).Pairwise (fun a b => afterOf up a b = true)
  | [], _ => by simp [insP]
  | a :: r, h => by
    obtain ⟨h1, h2⟩ := List.pairwise_cons.1 h
    unfold insP
    by_cases hp : p = a
    · rw [if_pos hp]; exact h
    · rw [if_neg hp]
      by_cases hb : afterOf up p a = true
      · rw [if_pos hb]
        refine List.pairwise_cons.2 ⟨fun x hx => ?_, h⟩
        rcases List.mem_cons.1 hx with rfl | hx
        · exact hb
        · exact afterOf_trans hb (h1 x hx)
      · rw [if_neg hb]
        refine List.pairwise_cons.2 ⟨fun x hx => ?_, sorted_insP h2⟩
        rcases mem_insP.1 hx with rfl | hx
        · exact afterOf_total (by simpa using hb) hp
        · exact h1 x hx
theorem mem_sortP {up : Bool} {x : Int} : ∀ {l : List Int}, x ∈ sortP up l ↔ x ∈ l
  | [] => by simp [sortP]
  | a :: r => by
    show x ∈ insP up a (sortP up r) ↔ _
    rw [mem_insP, mem_sortP, List.mem_cons]
theorem sorted_sortP (up : Bool) : ∀ (l : List Int), (sortP up l).Pairwise (fun a b => afterOf up a b = true)
  | [] => by simp [sortP]
  | a :: r => sorted_insP (sorted_sortP up r)
/-- Two lists in strict order that hold the same are one. -/
theorem sorted_one {up : Bool} : ∀ {l k : List Int}, l.Pairwise (fun a b => afterOf up a b = true) → k.Pairwise (fun a b => afterOf up a b = true) → (∀ x, x ∈ l ↔ x ∈ k) → l = k
  | [], [], _, _, _ => rfl
  | [], b :: k, _, _, h => absurd ((h b).2 (by simp)) (by simp)
  | a :: l, [], _, _, h => absurd ((h a).1 (by simp)) (by simp)
  | a :: l, b :: k, hl, hk, h => by
    obtain ⟨l1, l2⟩ := List.pairwise_cons.1 hl
    obtain ⟨k1, k2⟩ := List.pairwise_cons.1 hk
    have hab : a = b := by
      rcases List.mem_cons.1 ((h a).1 (by simp)) with e | ha
      · exact e
      · rcases List.mem_cons.1 ((h b).2 (by simp)) with e | hb
        · exact e.symm
        · have h1 := l1 b hb
          have h2 := k1 a ha
          have h3 := afterOf_trans h1 h2
          rw [afterOf_irrefl] at h3
          cases h3
    subst hab
    congr 1
    refine sorted_one l2 k2 fun x => ?_
    have hx := h x
    constructor
    · intro hxl
      rcases List.mem_cons.1 (hx.1 (List.mem_cons_of_mem _ hxl)) with rfl | e
      · have := l1 x hxl; rw [afterOf_irrefl] at this; cases this
      · exact e
    · intro hxk
      rcases List.mem_cons.1 (hx.2 (List.mem_cons_of_mem _ hxk)) with rfl | e
      · have := k1 x hxk; rw [afterOf_irrefl] at this; cases this
      · exact e

/-! ### Valid curves -/
theorem scanE_sorted (after : Int → Int → Bool) (ht : ∀ a b c, after a b = true → after b c = true → after a c = true) : ∀ (l : Crv) (pr : Option Int), scanE after pr l = 0 →
    (∀ a, pr = some a → ∀ s ∈ l, after a s.2 = true) ∧ l.Pairwise (fun s t => after s.2 t.2 = true)
  | [], _, _ => by simp
  | s :: l, pr, h => by
    rw [scanE_cons] at h
    by_cases hb : s.1 < 1 ∨ 1000000 < s.1 ∨ s.2 < -1000000 ∨ 1000000 < s.2
    · rw [if_pos hb] at h; omega
    · rw [if_neg hb] at h
      by_cases hn : notAfter after pr s.2 = true
      · rw [if_pos hn] at h; omega
      · rw [if_neg hn] at h
        obtain ⟨h1, h2⟩ := scanE_sorted after ht l (some s.2) h
        refine ⟨fun a ha t hm => ?_, List.pairwise_cons.2 ⟨fun t hm => h1 _ rfl t hm, h2⟩⟩
        subst ha
        have hs : after a s.2 = true := by simpa [notAfter] using hn
        rcases List.mem_cons.1 hm with rfl | hm
        · exact hs
        · exact ht _ _ _ hs (h1 _ rfl t hm)
theorem curveE_sorted {up : Bool} {l : Crv} (h : curveE (afterOf up) l = 0) : l.Pairwise (fun s t => afterOf up s.2 t.2 = true) := by
  unfold curveE at h
  by_cases h0 : l.length = 0
  · rw [if_pos h0] at h; omega
  · rw [if_neg h0] at h
    by_cases h3 : 3 < l.length
    · rw [if_pos h3] at h; omega
    · rw [if_neg h3] at h
      exact (scanE_sorted (afterOf up) (fun _ _ _ h k => afterOf_trans h k) l none h).2
/-- No price stands twice. -/
theorem curveE_apart {up : Bool} {l : Crv} (h : curveE (afterOf up) l = 0) : l.Pairwise (fun s t => s.2 ≠ t.2) :=
  (curveE_sorted h).imp (fun {s t} hst e => by rw [e, afterOf_irrefl] at hst; cases hst)
theorem badAt_none {up : Bool} : ∀ {M : List Crv}, badAt up M = none ↔ ∀ c ∈ M, curveE (afterOf up) c = 0
  | [] => by simp [badAt]
  | c :: r => by
    unfold badAt
    by_cases h : curveE (afterOf up) c = 0
    · rw [if_pos h, Option.map_eq_none_iff, badAt_none]; simp [h]
    · rw [if_neg h]; simp [h]
/-- What is known when the curve k is the first that is refused. -/
theorem badAt_first {up : Bool} : ∀ {M : List Crv} {k : Nat} (hk : k < M.length), (∀ j (hj : j < k), curveE (afterOf up) M[j] = 0) → curveE (afterOf up) M[k] ≠ 0 → badAt up M = some (k, curveE (afterOf up) M[k])
  | [], _, hk, _, _ => absurd hk (by simp)
  | c :: r, 0, _, _, h => by
    unfold badAt
    rw [if_neg (by simpa using h)]; rfl
  | c :: r, k + 1, hk, h0, h => by
    unfold badAt
    have e := h0 0 (by omega)
    rw [List.getElem_cons_zero] at e
    rw [if_pos e, badAt_first (k := k) (by simpa using hk) (fun j hj => by have := h0 (j + 1) (by omega); rwa [List.getElem_cons_succ] at this) (by simpa using h)]
    rfl

/-! ### Quantities -/
theorem qAt_nil (p : Int) : qAt [] p = 0 := rfl
theorem qAt_snoc (c : Crv) (s : Int × Int) (p : Int) : qAt (c ++ [s]) p = qAt c p + (if s.2 = p then s.1 else 0) := by
  unfold qAt
  by_cases h : s.2 = p
  · simp [List.filter_append, h]
  · simp [List.filter_append, h]
theorem qAt_none {c : Crv} {p : Int} (h : ∀ s ∈ c, s.2 ≠ p) : qAt c p = 0 := by
  unfold qAt
  rw [List.filter_eq_nil_iff.2 (fun s hs => by simpa using h s hs)]
  rfl
theorem sum_set : ∀ (l : List Int) (i : Nat) (hi : i < l.length) (x : Int), (l.set i x).sum = l.sum - l[i] + x
  | [], _, hi, _ => absurd hi (by simp)
  | a :: r, 0, _, x => by simp; omega
  | a :: r, i + 1, hi, x => by
    have := sum_set r i (by simpa using hi) x
    simp [this]; omega
theorem partsAt_set (M : List Crv) (i : Nat) (c : Crv) (p : Int) : partsAt (M.set i c) p = (partsAt M p).set i (qAt c p) := by
  unfold partsAt
  rw [List.map_set]
theorem partsAt_len (M : List Crv) (p : Int) : (partsAt M p).length = M.length := by simp [partsAt]
/-- One more step of curve i: what turns at its price. -/
theorem partsAt_step {M : List Crv} {i : Nat} (hi : i < M.length) {s : Int × Int} (hs : ∀ t ∈ M[i], t.2 ≠ s.2) : partsAt (M.set i (M[i] ++ [s])) s.2 = (partsAt M s.2).set i s.1 := by
  rw [partsAt_set, qAt_snoc, qAt_none hs, if_pos rfl, Int.zero_add]
theorem partsAt_other {M : List Crv} {i : Nat} (hi : i < M.length) {s : Int × Int} {p : Int} (hp : p ≠ s.2) : partsAt (M.set i (M[i] ++ [s])) p = partsAt M p := by
  rw [partsAt_set, qAt_snoc, if_neg (Ne.symm hp), Int.add_zero]
  unfold partsAt
  rw [← List.map_set (f := fun c => qAt c p), List.set_getElem_self]
theorem sum_step {M : List Crv} {i : Nat} (hi : i < M.length) {s : Int × Int} (hs : ∀ t ∈ M[i], t.2 ≠ s.2) : (partsAt (M.set i (M[i] ++ [s])) s.2).sum = (partsAt M s.2).sum + s.1 := by
  rw [partsAt_step hi hs, sum_set _ _ (by rw [partsAt_len]; exact hi)]
  have : (partsAt M s.2)[i]'(by rw [partsAt_len]; exact hi) = 0 := by
    simp only [partsAt, List.getElem_map]
    exact qAt_none hs
  omega
theorem mem_pricesOf {M : List Crv} {p : Int} : p ∈ pricesOf M ↔ ∃ c ∈ M, ∃ s ∈ c, s.2 = p := by
  simp [pricesOf, List.mem_flatMap, List.mem_map]
theorem mem_prices_step {M : List Crv} {i : Nat} (hi : i < M.length) {s : Int × Int} {p : Int} : p ∈ pricesOf (M.set i (M[i] ++ [s])) ↔ p ∈ pricesOf M ∨ p = s.2 := by
  rw [mem_pricesOf, mem_pricesOf]
  constructor
  · rintro ⟨c, hc, t, ht, rfl⟩
    rcases List.mem_or_eq_of_mem_set hc with hc | rfl
    · exact .inl ⟨c, hc, t, ht, rfl⟩
    · rcases List.mem_append.1 ht with ht | ht
      · exact .inl ⟨_, List.getElem_mem hi, t, ht, rfl⟩
      · rw [List.mem_singleton.1 ht]; exact .inr rfl
  · rintro (⟨c, hc, t, ht, rfl⟩ | rfl)
    · obtain ⟨j, hj, rfl⟩ := List.getElem_of_mem hc
      by_cases hji : j = i
      · subst hji
        exact ⟨_, List.mem_set hi _, t, List.mem_append_left _ ht, rfl⟩
      · refine ⟨M[j], ?_, t, ht, rfl⟩
        exact List.mem_iff_getElem.2 ⟨j, by simpa using hj, by rw [List.getElem_set_ne (Ne.symm hji)]⟩
    · exact ⟨_, List.mem_set hi _, s, by simp, rfl⟩
theorem qAt_zero_of_not {M : List Crv} {p : Int} (h : p ∉ pricesOf M) : partsAt M p = List.replicate M.length 0 := by
  unfold partsAt
  rw [List.eq_replicate_iff]
  refine ⟨by simp, fun x hx => ?_⟩
  obtain ⟨c, hc, rfl⟩ := List.mem_map.1 hx
  exact qAt_none fun s hs e => h (mem_pricesOf.2 ⟨c, hc, s, hs, e⟩)
/-- All the curves up to i, and of curve i the first k steps. -/
def sofar (L : List Crv) (i k : Nat) : List Crv := L.take i ++ ((L[i]?.getD []).take k :: List.replicate (L.length - i - 1) [])
#print axioms sum_step
end Go.Proofs.YtlaemhigmgmgjaaGreat
/- cmp.Compare, the orders of stacks, ContainsFunc, (Level).own and (Level).sum: what they return. No condition beyond sizes. -/
namespace Go.Proofs.YtlaemhigmgmgjaaGreat
set_option linter.unusedVariables false
set_option linter.unusedSimpArgs false
open Go.RowKit

def cmpI (a b : Int) : Int := if a < b then -1 else if b < a then 1 else 0

theorem nan_calls (a : Int) (w : World) : Calls Tryz.prog 87 #[.int .i64 a] w fun e w' => w' = w ∧ e = .returned (.bool false) := by
  go_enter Tryz.func87, Tryz.ntmps87
  go_wp2
  go_ret
  simp

set_option maxRecDepth 100000 in
theorem cmpi_calls (a b : Int) (w : World) : Calls Tryz.prog 64 #[.int .i64 a, .int .i64 b] w fun e w' => w' = w ∧ e = .returned (.int .i64 (cmpI a b)) := by
  go_enter Tryz.func64, Tryz.ntmps64
  go_wp2_with fail
  refine (nan_calls a w).mono ?_
  rintro e w1 ⟨rfl, rfl⟩
  go_wp2_with fail
  refine (nan_calls b w1).mono ?_
  rintro e w2 ⟨rfl, rfl⟩
  rcases Int.lt_trichotomy a b with h | h | h
  · have e : cmpI a b = -1 := by unfold cmpI; rw [if_pos h]
    have HE := Lib.hid e
    clear e
    go_wp2
    go_ret
    exact ⟨rfl, by rw [HE.out]; rfl⟩
  · subst h
    have e : cmpI a a = 0 := by unfold cmpI; rw [if_neg (by omega), if_neg (by omega)]
    have HE := Lib.hid e
    clear e
    go_wp2
    go_ret
    exact ⟨rfl, by rw [HE.out]; rfl⟩
  · have e : cmpI a b = 1 := by unfold cmpI; rw [if_neg (by omega), if_pos h]
    have HE := Lib.hid e
    have h2 : b ≤ a := by omega
    clear e
    go_wp2
    go_ret
    exact ⟨rfl, by rw [HE.out]; rfl⟩

theorem rowdown_calls (a b : Int) (w : World) : Calls Tryz.prog 65 #[.int .i64 a, .int .i64 b] w fun e w' => w' = w ∧ e = .returned (.int .i64 (cmpI b a)) := by
  go_enter Tryz.func65, Tryz.ntmps65
  go_wp2_with fail
  refine (cmpi_calls b a w).mono ?_
  rintro e w1 ⟨rfl, rfl⟩
  obtain ⟨r, hr⟩ : ∃ r, r = cmpI b a := ⟨_, rfl⟩
  rw [← hr]
  have HR := Lib.hid hr
  clear hr
  go_wp2
  go_ret
  exact ⟨rfl, by rw [← HR.out]; rfl⟩

/-! ### One level -/
def farP (x : Int) : Bool := decide (x < 0) || decide (1000000 < x)
theorem far_calls (a : Int) (w : World) : Calls Tryz.prog 119 #[.int .i64 a] w fun e w' => w' = w ∧ e = .returned (.bool (farP a)) := by
  go_enter Tryz.func119, Tryz.ntmps119
  by_cases h0 : a < 0
  · have e : farP a = true := by simp [farP, h0]
    have HE := Lib.hid e
    clear e
    go_wp2
    go_ret
    exact ⟨rfl, by rw [HE.out]; rfl⟩
  · have h1 : 0 ≤ a := by omega
    clear h0
    by_cases h2 : 1000000 < a
    · have e : farP a = true := by simp [farP, h2]
      have HE := Lib.hid e
      clear e
      go_wp2
      go_ret
      exact ⟨rfl, by rw [HE.out]; rfl⟩
    · have h3 : a ≤ 1000000 := by omega
      have e : farP a = false := by simp [farP]; omega
      have HE := Lib.hid e
      clear e h2
      go_wp2
      go_ret
      refine ⟨rfl, ?_⟩
      rw [HE.out]
      simp
      omega

theorem i64_cell {ok : Nat → Option Obj → Prop} {w : World} {A : Option Addr} {n c : Nat} {l : List Int} (h : Row Kd.i64 ok w (.slice A n c) l) {k : Nat} (hk : k < l.length) :
    ∃ b off, A = some ⟨b, off, none⟩ ∧ w.cell? ⟨b, off + k, none⟩ = some (.int .i64 l[k]) ∧ I64 l[k] := by
  obtain ⟨A', c', hv, hc, hm, hr⟩ := h
  simp only [Value.slice.injEq] at hv
  obtain ⟨rfl, rfl, rfl⟩ := hv
  obtain ⟨b, off, rfl, _, hj⟩ := hr (by omega)
  obtain ⟨cs, ⟨rfl, h2⟩, h3⟩ := hj k hk
  have := h3 0 (by simp)
  simp only [List.getElem_cons_zero, Nat.add_zero] at this
  exact ⟨b, off, rfl, by simpa [Kd.flat] using this, h2⟩

set_option maxRecDepth 100000 in
set_option maxHeartbeats 1000000 in
theorem index_calls (ok : Nat → Option Obj → Prop) (A : Option Addr) (n c : Nat) (l : List Int) (w : World) (h : Row Kd.i64 ok w (.slice A n c) l) :
    Calls Tryz.prog 131 #[.slice A n c, .func (.func 119) #[] #[]] w fun e w' => w' = w ∧ ∃ r, e = .returned (.int .i64 r) ∧ ((0 ≤ r ∧ l.any farP = true) ∨ (r < 0 ∧ l.any farP = false)) := by
  obtain rfl := h.len
  have hm := h.small
  have HR := Lib.hid h
  clear h
  go_enter Tryz.func131, Tryz.ntmps131
  go_wp2_with fail
  go_loopw [8] (fun i wr => ∃ k : Nat, k ≤ l.length ∧ i = .int .i64 k ∧ Hid ((l.take k).any farP = false) ∧ wr = w)
    (fun i _ => l.length - (intOf i).toNat)
  case atStart => exact ⟨0, Nat.zero_le _, rfl, by simp [Hid], rfl⟩
  case round =>
    obtain ⟨k, hk, rfl, HI, rfl⟩ := hrel
    by_cases hlt : k < l.length
    · obtain ⟨b, off, rfl, hx, _⟩ := i64_cell HR.out hlt
      have ht := List.take_succ_eq_append_getElem hlt
      obtain ⟨x, hxd⟩ : ∃ x, x = l[k] := ⟨_, rfl⟩
      rw [← hxd] at hx ht
      have hmem : x ∈ l := by rw [hxd]; exact List.getElem_mem _
      have HT := Lib.hid ht
      have HM := Lib.hid hmem
      clear hxd ht hmem
      go_wp2_with fail
      refine (far_calls x wr).mono ?_
      rintro e w1 ⟨rfl, rfl⟩
      obtain ⟨f, hf⟩ : ∃ f, f = farP x := ⟨_, rfl⟩
      rw [← hf]
      have HF := Lib.hid hf
      clear hf
      cases f
      · go_wp2
        go_roundw
        case rel => exact ⟨k + 1, by omega, by go_num, by show _ = _; rw [HT.out, List.any_append, HI.out]; simp [HF.out.symm], trivial⟩
        case measure => simp [intOf]; omega
      · go_wp2
        go_ret
        exact ⟨rfl, _, rfl, .inl ⟨by omega, List.any_eq_true.2 ⟨x, HM.out, HF.out.symm⟩⟩⟩
    · obtain rfl : k = l.length := by omega
      go_wp2
      go_ret
      exact ⟨rfl, _, rfl, .inr ⟨by decide, by have := HI.out; rwa [List.take_length] at this⟩⟩

set_option maxRecDepth 100000 in
theorem contains_calls (ok : Nat → Option Obj → Prop) (A : Option Addr) (n c : Nat) (l : List Int) (w : World) (h : Row Kd.i64 ok w (.slice A n c) l) :
    Calls Tryz.prog 120 #[.slice A n c, .func (.func 119) #[] #[]] w fun e w' => w' = w ∧ e = .returned (.bool (l.any farP)) := by
  go_enter Tryz.func120, Tryz.ntmps120
  go_wp2_with fail
  refine (index_calls ok _ _ _ l w h).mono ?_
  rintro e w1 ⟨rfl, r, rfl, hr⟩
  rcases hr with ⟨h1, h2⟩ | ⟨h1, h2⟩
  · have HE := Lib.hid h2
    clear h2
    go_wp2
    go_ret
    exact ⟨rfl, by rw [HE.out]; rfl⟩
  · have HE := Lib.hid h2
    clear h2
    go_wp2
    go_ret
    refine ⟨rfl, ?_⟩
    rw [HE.out]
    simp
    omega

def ownE (x : Lv) : Int := if x.1 < -1000000 ∨ 1000000 < x.1 ∨ x.2.2.length < 1 ∨ 16 < x.2.2.length ∨ x.2.2.any farP = true then 1 else 0

set_option maxRecDepth 100000 in
set_option maxHeartbeats 2000000 in
theorem own_calls (ok : Nat → Option Obj → Prop) (p q : Int) (A : Option Addr) (n c : Nat) (l : List Int) (w : World) (h : Row Kd.i64 ok w (.slice A n c) l) :
    Calls Tryz.prog 101 #[.agg #[.int .i64 p, .int .i64 q, .slice A n c]] w fun e w' => Below w.heap.size w w' ∧ e = .returned (.int .i64 (ownE (p, q, l))) := by
  obtain rfl := h.len
  have hm := h.small
  obtain ⟨W, hW, g0, hB, hs⟩ := one_box w (.cells #[.int .i64 p, .int .i64 q, .slice A l.length c] 105)
  have y0 : W.cell? ⟨w.heap.size, 0, none⟩ = some (.int .i64 p) := hcell g0 0 rfl
  have y2 : W.cell? ⟨w.heap.size, 2, none⟩ = some (.slice A l.length c) := hcell g0 2 rfl
  have HR := Lib.hid (h.below hB)
  have HB := Lib.hid hB
  clear h hB hs g0
  go_enter Tryz.func101, Tryz.ntmps101
  by_cases hbad : p < -1000000 ∨ 1000000 < p ∨ l.length < 1 ∨ 16 < l.length
  · have e : ownE (p, q, l) = 1 := by unfold ownE; rw [if_pos (by simp only; rcases hbad with h | h | h | h <;> simp [h])]
    have HE := Lib.hid e
    have c1 : (p < -1000000) ∨ (-1000000 ≤ p ∧ 1000000 < p) ∨ (-1000000 ≤ p ∧ p ≤ 1000000 ∧ (l.length : Int) < 1) ∨ (-1000000 ≤ p ∧ p ≤ 1000000 ∧ (1 : Int) ≤ l.length ∧ (16 : Int) < l.length) := by omega
    clear hbad e
    rcases c1 with c1 | ⟨c1, c2⟩ | ⟨c1, c2, c3⟩ | ⟨c1, c2, c3, c4⟩
    all_goals
      go_wp2
      go_ret
      exact ⟨HB.out, by rw [HE.out]; rfl⟩
  · have c1 : -1000000 ≤ p := by omega
    have c2 : p ≤ 1000000 := by omega
    have c3 : (1 : Int) ≤ l.length := by omega
    have c4 : (l.length : Int) ≤ 16 := by omega
    have e : ownE (p, q, l) = if l.any farP = true then 1 else 0 := by
      unfold ownE
      by_cases ha : l.any farP = true
      · rw [if_pos (by simp [ha]), if_pos ha]
      · rw [if_neg (by simp only; rintro (h | h | h | h | h) <;> first | omega | exact ha h), if_neg ha]
    have HE := Lib.hid e
    clear hbad e
    go_wp2_with fail
    refine (contains_calls ok _ _ _ l _ HR.out).mono ?_
    rintro e w1 ⟨rfl, rfl⟩
    obtain ⟨f, hf⟩ : ∃ f, f = l.any farP := ⟨_, rfl⟩
    rw [← hf]
    rw [← hf] at HE
    clear hf
    cases f
    all_goals
      go_wp2
      go_ret
      exact ⟨HB.out, by rw [HE.out]; rfl⟩

theorem sum_take (l : List Int) (k : Nat) (hk : k < l.length) : (l.take (k + 1)).sum = (l.take k).sum + l[k] := by
  rw [List.take_succ_eq_append_getElem hk, List.sum_append]; simp
theorem sum_le (l : List Int) (h : ∀ x ∈ l, 0 ≤ x ∧ x ≤ 1000000) : ∀ k, k ≤ l.length → 0 ≤ (l.take k).sum ∧ (l.take k).sum ≤ 1000000 * k
  | 0, _ => by simp
  | k + 1, hk => by
    obtain ⟨h1, h2⟩ := sum_le l h k (by omega)
    have h3 := h l[k] (List.getElem_mem _)
    rw [sum_take l k (by omega)]
    omega

set_option maxRecDepth 100000 in
set_option maxHeartbeats 2000000 in
theorem levelsum_calls (ok : Nat → Option Obj → Prop) (p q : Int) (A : Option Addr) (n c : Nat) (l : List Int) (w : World) (h : Row Kd.i64 ok w (.slice A n c) l) (hl : l.length ≤ 16) (hx : ∀ x ∈ l, 0 ≤ x ∧ x ≤ 1000000) :
    Calls Tryz.prog 102 #[.agg #[.int .i64 p, .int .i64 q, .slice A n c]] w fun e w' => Below w.heap.size w w' ∧ e = .returned (.int .i64 l.sum) := by
  obtain rfl := h.len
  obtain ⟨W, hW, g0, hB, hs⟩ := one_box w (.cells #[.int .i64 p, .int .i64 q, .slice A l.length c] 105)
  have y2 : W.cell? ⟨w.heap.size, 2, none⟩ = some (.slice A l.length c) := hcell g0 2 rfl
  have HR := Lib.hid (h.below hB)
  have HB := Lib.hid hB
  have HX := Lib.hid hx
  clear h hB hs g0 hx
  go_enter Tryz.func102, Tryz.ntmps102
  go_wp2_with fail
  clear hW
  go_loopw [3, 9] (fun sv i wr => ∃ (k : Nat) (s : Int), k ≤ l.length ∧ i = .int .i64 k ∧ sv = .int .i64 s ∧ Hid (s = (l.take k).sum) ∧ wr = W)
    (fun _ i _ => l.length - (intOf i).toNat)
  case atStart => exact ⟨0, 0, Nat.zero_le _, rfl, rfl, by simp [Hid], rfl⟩
  case round =>
    obtain ⟨k, s, hk, rfl, rfl, HS, rfl⟩ := hrel
    by_cases hlt : k < l.length
    · obtain ⟨b, off, rfl, hx, _⟩ := i64_cell HR.out hlt
      have h1 := sum_le l HX.out k hk
      rw [← HS.out] at h1
      have h2 := HX.out l[k] (List.getElem_mem _)
      have ht := sum_take l k hlt
      rw [← HS.out] at ht
      obtain ⟨x, hxd⟩ : ∃ x, x = l[k] := ⟨_, rfl⟩
      rw [← hxd] at hx ht h2
      have HT := Lib.hid ht
      clear hxd ht
      have hwr : IntKind.i64.wrap (s + x) = s + x := IntWalk.i64_in _ ⟨by omega, by omega⟩
      go_wp2
      go_roundw
      case rel => exact ⟨k + 1, s + x, by omega, by go_num, rfl, HT.out.symm, trivial⟩
      case measure => simp [intOf]; omega
    · obtain rfl : k = l.length := by omega
      have e : s = l.sum := by rw [HS.out, List.take_length]
      have HE := Lib.hid e
      clear e
      go_wp2
      go_ret
      exact ⟨HB.out, by rw [← HE.out]; rfl⟩
#print axioms own_calls
#print axioms levelsum_calls
end Go.Proofs.YtlaemhigmgmgjaaGreat
/- stack: Check, Total: what they return. No condition. -/
namespace Go.Proofs.YtlaemhigmgmgjaaGreat
set_option linter.unusedVariables false
set_option linter.unusedSimpArgs false
open Go.RowKit

def lvAt (s : List Lv) (k : Nat) : Lv := (s[k]?).getD (0, 0, [])
theorem lvAt_eq {s : List Lv} {k : Nat} (hk : k < s.length) : lvAt s k = s[k] := by simp [lvAt, hk]
def restE (s : List Lv) (k : Nat) : Int :=
  if (lvAt s k).2.2.length ≠ (lvAt s 0).2.2.length ∨ (lvAt s k).2.1 = 0 ∨ (lvAt s k).2.1 ≠ (lvAt s k).2.2.sum then 3
  else if k = 0 then 0
  else if cmpI (lvAt s k).1 (lvAt s (k - 1)).1 = 0 ∨ cmpI (lvAt s k).1 (lvAt s (k - 1)).1 ≠ cmpI (lvAt s 1).1 (lvAt s 0).1 then 3 else 0
def levelE (s : List Lv) (k : Nat) : Int := if ownE (lvAt s k) = 0 then restE s k else ownE (lvAt s k)
def firstNZ : List Int → Int
  | [] => 0
  | a :: r => if a = 0 then firstNZ r else a
def checkE (s : List Lv) : Int := if 48 < s.length then 5 else firstNZ ((List.range s.length).map (levelE s))
theorem firstNZ_zero : ∀ {l : List Int}, firstNZ l = 0 ↔ ∀ x ∈ l, x = 0
  | [] => by simp [firstNZ]
  | a :: r => by
    unfold firstNZ
    by_cases h : a = 0
    · rw [if_pos h, firstNZ_zero]; simp [h]
    · rw [if_neg h]; simp [h]
theorem checkE_zero {s : List Lv} : checkE s = 0 ↔ s.length ≤ 48 ∧ ∀ k, k < s.length → levelE s k = 0 := by
  unfold checkE
  by_cases h : 48 < s.length
  · rw [if_pos h]
    constructor
    · intro h; omega
    · rintro ⟨h1, _⟩; omega
  · rw [if_neg h, firstNZ_zero]
    simp only [List.mem_map, List.mem_range]
    constructor
    · intro h2; exact ⟨by omega, fun k hk => h2 _ ⟨k, hk, rfl⟩⟩
    · rintro ⟨_, h2⟩ x ⟨k, hk, rfl⟩; exact h2 k hk
theorem dropped {s : List Lv} {k : Nat} (hk : k < s.length) : ((List.range s.length).map (levelE s)).drop k = levelE s k :: ((List.range s.length).map (levelE s)).drop (k + 1) := by
  rw [List.drop_eq_getElem_cons (by simpa using hk)]
  simp
theorem ownE_in {x : Lv} (h : ownE x = 0) : -1000000 ≤ x.1 ∧ x.1 ≤ 1000000 ∧ 1 ≤ x.2.2.length ∧ x.2.2.length ≤ 16 ∧ ∀ y ∈ x.2.2, 0 ≤ y ∧ y ≤ 1000000 := by
  unfold ownE at h
  by_cases hb : x.1 < -1000000 ∨ 1000000 < x.1 ∨ x.2.2.length < 1 ∨ 16 < x.2.2.length ∨ x.2.2.any farP = true
  · rw [if_pos hb] at h; omega
  · refine ⟨by omega, by omega, by omega, by omega, fun y hy => ?_⟩
    have : x.2.2.any farP = false := by
      cases ha : x.2.2.any farP
      · rfl
      · exact absurd (.inr (.inr (.inr (.inr ha)))) hb
    have h2 := List.any_eq_false.1 this y hy
    simp [farP] at h2
    omega

/-- A level's cells. -/
theorem level_cell {ok : Nat → Option Obj → Prop} {w : World} {A : Option Addr} {n c : Nat} {s : List Lv} (h : Row Kd.level ok w (.slice A n c) s) {k : Nat} (hk : k < s.length) :
    ∃ b off Ap cp, A = some ⟨b, off, none⟩ ∧ w.cell? ⟨b, off + k * 3, none⟩ = some (.int .i64 (lvAt s k).1) ∧ w.cell? ⟨b, off + k * 3 + 1, none⟩ = some (.int .i64 (lvAt s k).2.1) ∧
      w.cell? ⟨b, off + k * 3 + 2, none⟩ = some (.slice Ap (lvAt s k).2.2.length cp) ∧ I64 (lvAt s k).1 ∧ I64 (lvAt s k).2.1 ∧ Row Kd.i64 ok w (.slice Ap (lvAt s k).2.2.length cp) (lvAt s k).2.2 := by
  obtain ⟨A', c', hv, hc, hm, hr⟩ := h
  simp only [Value.slice.injEq] at hv
  obtain ⟨rfl, rfl, rfl⟩ := hv
  obtain ⟨b, off, rfl, _, hj⟩ := hr (by omega)
  obtain ⟨cs, h1, h2⟩ := hj k hk
  rw [← lvAt_eq hk] at h1
  obtain ⟨v, rfl, i1, i2, hv⟩ := Kd.level_open (p := (lvAt s k).1) (q := (lvAt s k).2.1) (l := (lvAt s k).2.2) h1
  obtain ⟨Ap, cp, rfl, _⟩ := hv.form
  have e0 := h2 0 (by simp)
  have e1 := h2 1 (by simp)
  have e2 := h2 2 (by simp)
  exact ⟨b, off, Ap, cp, rfl, e0, e1, e2, i1, i2, hv⟩

set_option maxRecDepth 100000 in
set_option maxHeartbeats 4000000 in
theorem check_calls (ok : Nat → Option Obj → Prop) (A : Option Addr) (n c : Nat) (s : List Lv) (w : World) (h : Row Kd.level ok w (.slice A n c) s) :
    Calls Tryz.prog 88 #[.slice A n c] w fun e w' => Below w.heap.size w w' ∧ e = .returned (.int .i64 (checkE s)) := by
  obtain rfl := h.len
  have hm := h.small
  have HR := Lib.hid h
  clear h
  go_enter Tryz.func88, Tryz.ntmps88
  by_cases h48 : 48 < s.length
  · have e : checkE s = 5 := by unfold checkE; rw [if_pos h48]
    have HE := Lib.hid e
    have hgt : (48 : Int) < (s.length : Int) := by omega
    clear e
    go_wp2
    go_ret
    exact ⟨Below.refl _ _, by rw [HE.out]; rfl⟩
  have e : checkE s = firstNZ (((List.range s.length).map (levelE s)).drop 0) := by unfold checkE; rw [if_neg h48]; rfl
  have HE := Lib.hid e
  have hgt : (s.length : Int) ≤ 48 := by omega
  clear e h48
  go_wp2_with fail
  go_loopw [12] (fun i wr => ∃ k : Nat, k ≤ s.length ∧ i = .int .i64 k ∧ Hid (checkE s = firstNZ (((List.range s.length).map (levelE s)).drop k)) ∧ Hid (Below w.heap.size w wr))
    (fun i _ => s.length - (intOf i).toNat)
  case atStart => exact ⟨0, Nat.zero_le _, rfl, HE.out, Below.refl _ _⟩
  case round =>
    obtain ⟨k, hk, rfl, HI, HBW⟩ := hrel
    by_cases hlt : k < s.length
    · obtain ⟨b, off, Ap, cp, rfl, y0, y1, y2, ip, iq, hv⟩ := level_cell (HR.out.below HBW.out) hlt
      have hI := HI.out
      rw [dropped hlt] at hI
      obtain ⟨⟨p, q, l⟩, hxd⟩ : ∃ x, x = lvAt s k := ⟨_, rfl⟩
      rw [← hxd] at y0 y1 y2 hv iq ip
      simp only at y0 y1 y2 hv iq ip
      have HXD := Lib.hid hxd
      have HIP := Lib.hid ip
      have HIQ := Lib.hid iq
      obtain ⟨Wx, hWx, gx, hBx, hsx⟩ := one_box wr (.cells #[.int .i64 p, .int .i64 q, .slice Ap l.length cp] 105)
      have HBX := Lib.hid (below_next HBW.out hBx)
      have x0 : Wx.cell? ⟨wr.heap.size, 0, none⟩ = some (.int .i64 p) := hcell gx 0 rfl
      have x1 : Wx.cell? ⟨wr.heap.size, 1, none⟩ = some (.int .i64 q) := hcell gx 1 rfl
      have x2 : Wx.cell? ⟨wr.heap.size, 2, none⟩ = some (.slice Ap l.length cp) := hcell gx 2 rfl
      have HV := Lib.hid (hv.below hBx)
      have HI2 := Lib.hid hI
      have GX := Lib.hid gx
      clear hxd iq ip hI HI hv hBx hsx gx
      go_wp2_with fail
      clear hWx
      refine (own_calls ok p q _ _ _ l _ HV.out).mono ?_
      rintro e w1 ⟨hb1, rfl⟩
      have HB1 := Lib.hid (below_next HBX.out hb1)
      have gx1 := heap_below hb1 GX.out
      have HV1 := Lib.hid (HV.out.below hb1)
      obtain ⟨d, hd⟩ : ∃ d, d = ownE (p, q, l) := ⟨_, rfl⟩
      rw [← hd]
      have HD := Lib.hid hd
      clear hb1 hd x0 x1 x2 y0 y1 y2
      by_cases h0 : d = 0
      · subst h0
        have hin := ownE_in HD.out.symm
        simp only at hin
        have HIN := Lib.hid hin
        have hl16 : l.length ≤ 16 := hin.2.2.2.1
        have e : levelE s k = restE s k := by unfold levelE; rw [← HXD.out, if_pos HD.out.symm]
        rw [e] at HI2
        have HX := Lib.hid HXD.out
        clear hin e
        obtain ⟨b', off', A0, c0, hA', z0, z1, z2, _, _, hv0⟩ := level_cell (HR.out.below (below_drew HB1.out)) (k := 0) (by omega)
        obtain ⟨rfl, rfl⟩ : b = b' ∧ off = off' := by simpa using hA'
        simp only [Nat.zero_mul, Nat.add_zero] at z0 z1 z2
        obtain ⟨n0, hn0⟩ : ∃ n0, n0 = (lvAt s 0).2.2.length := ⟨_, rfl⟩
        rw [← hn0] at z2
        have HN0 := Lib.hid hn0
        have hn0m : n0 ≤ 140737488355328 := hn0 ▸ hv0.small
        have xd1 : w1.drew.cell? ⟨wr.heap.size, 1, none⟩ = some (.int .i64 q) := hcell (heap_drew gx1) 1 rfl
        have xd2 : w1.drew.cell? ⟨wr.heap.size, 2, none⟩ = some (.slice Ap l.length cp) := hcell (heap_drew gx1) 2 rfl
        have xd0 : w1.drew.cell? ⟨wr.heap.size, 0, none⟩ = some (.int .i64 p) := hcell (heap_drew gx1) 0 rfl
        have HGX := Lib.hid gx1
        have hs0 : 0 < s.length := by omega
        clear hA' z0 z1 hv0 hn0 gx1
        by_cases hbad : l.length ≠ n0 ∨ q = 0
        · have e : restE s k = 3 := by unfold restE; rw [← HX.out, ← HN0.out, if_pos (hbad.imp id .inl)]
          have e2 : checkE s = 3 := by rw [HI2.out, e]; rfl
          have HE2 := Lib.hid e2
          have c1 : (((l.length : Int) == (n0 : Int)) = false ∧ ¬ l.length = n0) ∨ (l.length = n0 ∧ q = 0) := by
            by_cases hl : l.length = n0
            · exact .inr ⟨hl, hbad.resolve_left (fun h => h hl)⟩
            · exact .inl ⟨by rw [beq_eq_false_iff_ne]; omega, hl⟩
          clear hbad e e2
          rcases c1 with ⟨c1, c1'⟩ | ⟨c1, rfl⟩
          · have c2 : ((l.length : Int) != (n0 : Int)) = true := by rw [bne_iff_ne]; omega
            clear c1 c1'
            go_wp2_with fail
            go_region
            all_goals
              go_wp2
              go_ret
              exact ⟨HB1.out.drew, by rw [HE2.out]; rfl⟩
          · subst c1
            go_wp2_with fail
            go_region
            all_goals
              go_wp2
              go_ret
              exact ⟨HB1.out.drew, by rw [HE2.out]; rfl⟩
        · have c1 : l.length = n0 := by omega
          have c2 : (q == 0) = false := by rw [beq_eq_false_iff_ne]; omega
          have HQ : Hid (q ≠ 0) := Lib.hid (by omega)
          subst c1
          clear hbad
          go_wp2_with fail
          go_region_held3 (fun w' => w'.cell? ⟨wr.heap.size, 1, none⟩ = some (.int .i64 q) ∧ w'.cell? ⟨wr.heap.size, 2, none⟩ = some (.slice Ap l.length cp) ∧ w'.cell? ⟨wr.heap.size, 0, none⟩ = some (.int .i64 p) ∧ w'.cell? ⟨b, off + 2, none⟩ = some (.slice A0 l.length c0))
            (first | with_reducible exact ⟨xd1, xd2, xd0, z2⟩ | with_reducible exact ⟨k1, k2, k0, k3⟩ | go_keep)
            (first
              | (go_at_call 102; refine (levelsum_calls ok p q _ _ _ l _ (HV1.out.below (below_drew (Below.refl _ _))) hl16 HIN.out.2.2.2.2).mono ?_; rintro e w2 ⟨hb2, rfl⟩; have k1 := cell_below hb2 xd1; have k2 := cell_below hb2 xd2; have k0 := cell_below hb2 xd0; have k3 := cell_below hb2 z2; have HB2 := Lib.hid (below_next (below_drew HB1.out) hb2); clear hb2))
          obtain ⟨t, ht⟩ : ∃ t, t = l.sum := ⟨_, rfl⟩
          rw [← ht]
          have HT := Lib.hid ht
          clear ht xd0 xd1 xd2 z2
          by_cases hqt : q = t
          · subst hqt
            have e : restE s k = if k = 0 then 0 else if cmpI p (lvAt s (k - 1)).1 = 0 ∨ cmpI p (lvAt s (k - 1)).1 ≠ cmpI (lvAt s 1).1 (lvAt s 0).1 then 3 else 0 := by
              unfold restE
              rw [← HX.out, if_neg (by simp only; rintro (h | h | h); exact h HN0.out; exact HQ.out h; exact h HT.out)]
            rw [e] at HI2
            clear e
            cases k with
            | zero =>
              have e : checkE s = firstNZ (((List.range s.length).map (levelE s)).drop 1) := by rw [HI2.out, if_pos rfl]; rfl
              have HE2 := Lib.hid e
              clear e
              go_wp2
              go_roundw
              case rel => exact ⟨1, by omega, by go_num, HE2.out, HB2.out⟩
              case measure => simp [intOf]; omega
            | succ j =>
              have hj : j < s.length := by omega
              rw [if_neg (by omega), Nat.add_sub_cancel] at HI2
              obtain ⟨b1, off1, _, _, hA1, yj, _, _, _, _, _⟩ := level_cell (HR.out.below (below_drew HB2.out)) (k := j) (by omega)
              obtain ⟨rfl, rfl⟩ : b = b1 ∧ off = off1 := by simpa using hA1
              obtain ⟨b2, off2, _, _, hA2, ya, _, _, _, _, _⟩ := level_cell (HR.out.below (below_drew HB2.out)) (k := 1) (by omega)
              obtain ⟨rfl, rfl⟩ : b = b2 ∧ off = off2 := by simpa using hA2
              obtain ⟨b3, off3, _, _, hA3, yb, _, _, _, _, _⟩ := level_cell (HR.out.below (below_drew HB2.out)) (k := 0) (by omega)
              obtain ⟨rfl, rfl⟩ : b = b3 ∧ off = off3 := by simpa using hA3
              simp only [Nat.zero_mul, Nat.add_zero, Nat.one_mul] at ya yb
              obtain ⟨pj, hpj⟩ : ∃ x, x = (lvAt s j).1 := ⟨_, rfl⟩
              obtain ⟨pa, hpa⟩ : ∃ x, x = (lvAt s 1).1 := ⟨_, rfl⟩
              obtain ⟨pb, hpb⟩ : ∃ x, x = (lvAt s 0).1 := ⟨_, rfl⟩
              rw [← hpj] at yj
              rw [← hpa] at ya
              rw [← hpb] at yb
              rw [← hpj, ← hpa, ← hpb] at HI2
              have hidx : ((j : Int) + 1 - 1) = (j : Int) := by omega
              have hj0 : (0 : Int) < (j : Int) + 1 := by omega
              have hjb : (j : Int) < (s.length : Int) := by omega
              have hj1 : (0 : Int) ≤ (j : Int) := by omega
              have hs1 : 1 < s.length := by omega
              have hs1i : (1 : Int) < (s.length : Int) := by omega
              have hs0i : (0 : Int) < (s.length : Int) := by omega
              have hwr : IntKind.i64.wrap (j : Int) = (j : Int) := IntWalk.i64_in _ ⟨by omega, by omega⟩
              have xe : w2.drew.cell? ⟨wr.heap.size, 0, none⟩ = some (.int .i64 p) := k0
              clear hpj hpa hpb hA1 hA2 hA3 k0 k1 k2 k3
              go_wp2_with fail
              go_region_held3 (fun w' => w'.cell? ⟨wr.heap.size, 0, none⟩ = some (.int .i64 p) ∧ w'.cell? ⟨b, off + j * 3, none⟩ = some (.int .i64 pj))
                (first | with_reducible exact ⟨xe, yj⟩ | go_keep)
                (first | (go_at_call 64; refine (cmpi_calls p pj _).mono ?_; rintro e w3 ⟨rfl, rfl⟩))
              obtain ⟨d, hd⟩ : ∃ d, d = cmpI p pj := ⟨_, rfl⟩
              rw [← hd]
              rw [← hd] at HI2
              clear hd
              by_cases hd0 : d = 0
              · have e : checkE s = 3 := by rw [HI2.out, if_pos (.inl hd0)]; rfl
                have HE2 := Lib.hid e
                subst hd0
                clear e
                go_wp2_with fail
                go_region
                all_goals
                  go_wp2
                  go_ret
                  exact ⟨HB2.out.drew.drew, by rw [HE2.out]; rfl⟩
              · have hf : (d == 0) = false := by rw [beq_eq_false_iff_ne]; exact hd0
                have HD0 := Lib.hid hd0
                have ya' : w2.drew.drew.cell? ⟨b, off + 3, none⟩ = some (.int .i64 pa) := ya
                have yb' : w2.drew.drew.cell? ⟨b, off, none⟩ = some (.int .i64 pb) := yb
                clear hd0 xe yj ya yb
                go_wp2_with fail
                go_region_held3 (fun w' => w'.cell? ⟨b, off + 3, none⟩ = some (.int .i64 pa) ∧ w'.cell? ⟨b, off, none⟩ = some (.int .i64 pb))
                  (first | with_reducible exact ⟨ya', yb'⟩ | go_keep)
                  (first | (go_at_call 64; refine (cmpi_calls pa pb _).mono ?_; rintro e w3 ⟨rfl, rfl⟩))
                obtain ⟨g, hg⟩ : ∃ g, g = cmpI pa pb := ⟨_, rfl⟩
                rw [← hg]
                rw [← hg] at HI2
                clear hg
                by_cases hdg : d = g
                · subst hdg
                  have e : checkE s = firstNZ (((List.range s.length).map (levelE s)).drop (j + 1 + 1)) := by
                    rw [HI2.out, if_neg (by rintro (h | h); exact HD0.out h; exact h rfl)]; rfl
                  have HE2 := Lib.hid e
                  clear e
                  go_wp2
                  go_roundw
                  case rel => exact ⟨j + 1 + 1, by omega, by go_num, HE2.out, HB2.out.drew.drew⟩
                  case measure => simp [intOf]; omega
                · have e : checkE s = 3 := by rw [HI2.out, if_pos (.inr hdg)]; rfl
                  have HE2 := Lib.hid e
                  have hf2 : (d == g) = false := by rw [beq_eq_false_iff_ne]; exact hdg
                  clear e
                  go_wp2
                  go_ret
                  exact ⟨HB2.out.drew.drew, by rw [HE2.out]; rfl⟩
          · have e : restE s k = 3 := by
              unfold restE
              rw [← HX.out, if_pos (.inr (.inr (by simp only; rw [← HT.out]; exact hqt)))]
            have e2 : checkE s = 3 := by rw [HI2.out, e]; rfl
            have HE2 := Lib.hid e2
            have hf2 : (q == t) = false := by rw [beq_eq_false_iff_ne]; exact hqt
            clear e e2
            go_wp2
            go_ret
            exact ⟨HB2.out, by rw [HE2.out]; rfl⟩
      · have e : levelE s k = d := by unfold levelE; rw [← HXD.out, if_neg (by rw [← HD.out]; exact h0), HD.out]
        have e2 : checkE s = d := by rw [HI2.out, e]; unfold firstNZ; rw [if_neg h0]
        have HE2 := Lib.hid e2
        have hf : (d == 0) = false := by rw [beq_eq_false_iff_ne]; exact h0
        clear e e2
        go_wp2
        go_ret
        exact ⟨HB1.out, by rw [HE2.out]; rfl⟩
    · obtain rfl : k = s.length := by omega
      have e : checkE s = 0 := by rw [HI.out, List.drop_of_length_le (by simp)]; rfl
      have HE2 := Lib.hid e
      clear e
      go_wp2
      go_ret
      exact ⟨HBW.out, by rw [HE2.out]; rfl⟩
#print axioms check_calls
end Go.Proofs.YtlaemhigmgmgjaaGreat
/- stack: Total: what it returns. No condition. -/
namespace Go.Proofs.YtlaemhigmgmgjaaGreat
set_option linter.unusedVariables false
set_option linter.unusedSimpArgs false
open Go.RowKit

def qtys (s : List Lv) : List Int := s.map (·.2.1)
def totalE (s : List Lv) : Int := if checkE s = 0 then (qtys s).sum else 0
/-- What a valid stack's levels are. -/
structure LvOk (x : Lv) (n : Nat) : Prop where
  lo : -1000000 ≤ x.1
  hi : x.1 ≤ 1000000
  parts : ∀ y ∈ x.2.2, 0 ≤ y ∧ y ≤ 1000000
  len : x.2.2.length = n
  n1 : 1 ≤ n
  n16 : n ≤ 16
  qty : x.2.1 = x.2.2.sum
  pos : 0 < x.2.1
  top : x.2.1 ≤ 16000000
theorem check_ok {s : List Lv} (h : checkE s = 0) : s.length ≤ 48 ∧ ∀ x ∈ s, LvOk x (lvAt s 0).2.2.length := by
  obtain ⟨h1, h2⟩ := checkE_zero.1 h
  refine ⟨h1, fun x hx => ?_⟩
  obtain ⟨k, hk, rfl⟩ := List.getElem_of_mem hx
  have h3 := h2 k hk
  unfold levelE at h3
  by_cases h0 : ownE (lvAt s k) = 0
  · rw [if_pos h0] at h3
    have h4 := ownE_in h0
    unfold restE at h3
    by_cases hb : (lvAt s k).2.2.length ≠ (lvAt s 0).2.2.length ∨ (lvAt s k).2.1 = 0 ∨ (lvAt s k).2.1 ≠ (lvAt s k).2.2.sum
    · rw [if_pos hb] at h3; omega
    · rw [lvAt_eq hk] at h4 hb
      have h5 := sum_le s[k].2.2 h4.2.2.2.2 s[k].2.2.length (Nat.le_refl _)
      rw [List.take_length] at h5
      have e : s[k].2.1 = s[k].2.2.sum := by
        by_cases e : s[k].2.1 = s[k].2.2.sum
        · exact e
        · exact absurd (.inr (.inr e)) hb
      have e0 : s[k].2.1 ≠ 0 := fun e => hb (.inr (.inl e))
      have e1 : s[k].2.2.length = (lvAt s 0).2.2.length := by
        by_cases e : s[k].2.2.length = (lvAt s 0).2.2.length
        · exact e
        · exact absurd (.inl e) hb
      exact ⟨h4.1, h4.2.1, h4.2.2.2.2, e1, by omega, by omega, e, by omega, by omega⟩
  · rw [if_neg h0] at h3; exact absurd h3 h0
theorem qtys_take (s : List Lv) (k : Nat) (hk : k < s.length) : (qtys (s.take (k + 1))).sum = (qtys (s.take k)).sum + (lvAt s k).2.1 := by
  unfold qtys
  rw [List.take_succ_eq_append_getElem hk, List.map_append, List.sum_append, lvAt_eq hk]; simp
theorem qtys_le (s : List Lv) (h : ∀ x ∈ s, 0 < x.2.1 ∧ x.2.1 ≤ 16000000) : ∀ k, k ≤ s.length → 0 ≤ (qtys (s.take k)).sum ∧ (qtys (s.take k)).sum ≤ 16000000 * k
  | 0, _ => by simp [qtys]
  | k + 1, hk => by
    obtain ⟨h1, h2⟩ := qtys_le s h k (by omega)
    have h3 := h s[k] (List.getElem_mem _)
    rw [qtys_take s k (by omega), lvAt_eq (by omega)]
    omega
theorem totalE_le (s : List Lv) : 0 ≤ totalE s ∧ totalE s ≤ 768000000 := by
  unfold totalE
  by_cases h : checkE s = 0
  · rw [if_pos h]
    obtain ⟨h1, h2⟩ := check_ok h
    have h3 := qtys_le s (fun x hx => ⟨(h2 x hx).pos, (h2 x hx).top⟩) s.length (Nat.le_refl _)
    rw [List.take_length] at h3
    omega
  · rw [if_neg h]; omega

set_option maxRecDepth 100000 in
set_option maxHeartbeats 2000000 in
theorem total_calls (ok : Nat → Option Obj → Prop) (A : Option Addr) (n c : Nat) (s : List Lv) (w : World) (h : Row Kd.level ok w (.slice A n c) s) :
    Calls Tryz.prog 89 #[.slice A n c] w fun e w' => Below w.heap.size w w' ∧ e = .returned (.int .i64 (totalE s)) := by
  obtain rfl := h.len
  have HR := Lib.hid h
  clear h
  go_enter Tryz.func89, Tryz.ntmps89
  go_wp2_with fail
  refine (check_calls ok _ _ _ s _ HR.out).mono ?_
  rintro e w1 ⟨hb1, rfl⟩
  have HB1 := Lib.hid hb1
  clear hb1
  obtain ⟨d, hd⟩ : ∃ d, d = checkE s := ⟨_, rfl⟩
  rw [← hd]
  by_cases h0 : d = 0
  · have hi := check_ok (hd ▸ h0)
    have hlen : s.length ≤ 48 := hi.1
    have e : totalE s = (qtys s).sum := by unfold totalE; rw [if_pos (hd ▸ h0)]
    have HE := Lib.hid e
    have HI := Lib.hid (fun x (hx : x ∈ s) => And.intro (hi.2 x hx).pos (hi.2 x hx).top)
    clear e hd hi
    subst h0
    go_wp2_with fail
    go_loopw [3, 11] (fun sv i wr => ∃ (k : Nat) (t : Int), k ≤ s.length ∧ i = .int .i64 k ∧ sv = .int .i64 t ∧ Hid (t = (qtys (s.take k)).sum) ∧ Hid (Below w1.heap.size w1 wr))
      (fun _ i _ => s.length - (intOf i).toNat)
    case atStart => exact ⟨0, 0, Nat.zero_le _, rfl, rfl, by simp [Hid, qtys], Below.refl _ _⟩
    case round =>
      obtain ⟨k, t, hk, rfl, rfl, HS, HBW⟩ := hrel
      by_cases hlt : k < s.length
      · obtain ⟨b, off, Ap, cp, rfl, y0, y1, y2, _, _, _⟩ := level_cell (HR.out.below (below_next HB1.out HBW.out)) hlt
        have hs := qtys_le s HI.out k hk
        rw [← HS.out] at hs
        have hsi := HI.out s[k] (List.getElem_mem _)
        rw [← lvAt_eq hlt] at hsi
        have hst := qtys_take s k hlt
        rw [← HS.out] at hst
        obtain ⟨⟨p, q, l⟩, hxd⟩ : ∃ x, x = lvAt s k := ⟨_, rfl⟩
        rw [← hxd] at y0 y1 y2 hst hsi
        simp only at y0 y1 y2 hst hsi
        have HST := Lib.hid hst
        have HB3 := Lib.hid (below_next HBW.out (below_alloc wr (.cells #[.int .i64 p, .int .i64 q, .slice Ap l.length cp] 105)))
        have hwr : IntKind.i64.wrap (t + q) = t + q := IntWalk.i64_in _ ⟨by omega, by omega⟩
        clear hxd hst
        go_wp2
        go_roundw
        case rel => exact ⟨k + 1, t + q, by omega, by go_num, rfl, HST.out.symm, HB3.out⟩
        case measure => simp [intOf]; omega
      · obtain rfl : k = s.length := by omega
        have e2 : totalE s = t := by rw [HE.out, HS.out, List.take_length]
        have HE2 := Lib.hid e2
        clear e2
        go_wp2
        go_ret
        exact ⟨below_next HB1.out HBW.out, by rw [HE2.out]; rfl⟩
  · have e : totalE s = 0 := by unfold totalE; rw [if_neg (hd ▸ h0)]
    have HE := Lib.hid e
    have hf : (d == 0) = false := by rw [beq_eq_false_iff_ne]; exact h0
    clear e hd
    go_wp2
    go_ret
    exact ⟨HB1.out, by rw [HE.out]; rfl⟩
#print axioms total_calls
end Go.Proofs.YtlaemhigmgmgjaaGreat
/- Plain: sizes of fractions over one denominator; dividing a quantity among the levels of a stack. No condition. -/
namespace Go.Proofs.YtlaemhigmgmgjaaGreat
set_option linter.unusedVariables false
set_option linter.unusedSimpArgs false

/-- a/D with 0 ≤ a ≤ M * D. -/
def Ov (D M : Nat) (x : Rat) : Prop := ∃ a : Int, x = Rat.divInt a D ∧ 0 ≤ a ∧ a ≤ M * D
theorem Ov.fits {D M : Nat} {x : Rat} {k : Nat} (h : Ov D M x) (hD : 0 < D) (hk : D < 4294967296 ^ k) (hM : M < 4294967296) : Fits x (k + 1) := by
  obtain ⟨a, hx, h0, h1⟩ := h
  obtain ⟨m, hm, hn, hd⟩ := Rat.divInt_num_den (n' := x.num) (d' := x.den) (z' := x.den_nz) (c := x.reduced) (show (D : Int) ≠ 0 by omega) hx.symm
  have hm0 : 0 < m := by
    have h2 : (0 : Int) < (x.den : Int) := by have := x.den_pos; omega
    have h3 : (0 : Int) < (x.den : Int) * m := by rw [← hd]; omega
    rcases Int.lt_trichotomy m 0 with h4 | h4 | h4
    · have := Int.mul_neg_of_pos_of_neg h2 h4
      omega
    · exact absurd h4 hm
    · exact h4
  have hden : x.den ≤ D := by
    have : (x.den : Int) * 1 ≤ (x.den : Int) * m := Int.mul_le_mul_of_nonneg_left (by omega) (by omega)
    omega
  have hnum0 : 0 ≤ x.num := by
    by_cases hneg : x.num < 0
    · have := Int.mul_neg_of_neg_of_pos hneg hm0
      omega
    · omega
  have hnum : x.num ≤ M * D := by
    have : x.num * 1 ≤ x.num * m := Int.mul_le_mul_of_nonneg_left (by omega) hnum0
    omega
  have hpos : 0 < 4294967296 ^ k := Nat.pow_pos (by decide)
  constructor
  · refine dig_length_le ?_
    have h5 : x.num.natAbs ≤ M * D := by
      have h6 : (x.num.natAbs : Int) = x.num := Int.natAbs_of_nonneg hnum0
      have h7 : ((M * D : Nat) : Int) = (M : Int) * D := by simp
      omega
    have h6 : M * D ≤ M * 4294967296 ^ k := Nat.mul_le_mul_left _ (Nat.le_of_lt hk)
    have h7 : M * 4294967296 ^ k < 4294967296 * 4294967296 ^ k := Nat.mul_lt_mul_of_pos_right hM hpos
    rw [Nat.pow_succ, Nat.mul_comm (4294967296 ^ k)]
    omega
  · refine dig_length_le ?_
    rw [Nat.pow_succ]
    have : 4294967296 ^ k * 1 ≤ 4294967296 ^ k * 4294967296 := Nat.mul_le_mul_left _ (by decide)
    omega
theorem Ov.add {D M N : Nat} {x y : Rat} (hD : 0 < D) (h : Ov D M x) (k : Ov D N y) : Ov D (M + N) (x + y) := by
  obtain ⟨a, rfl, h0, h1⟩ := h
  obtain ⟨b, rfl, k0, k1⟩ := k
  refine ⟨a + b, ?_, by omega, ?_⟩
  · rw [Rat.divInt_add_divInt _ _ (by omega) (by omega), ← Int.add_mul, Rat.divInt_mul_right (by omega)]
  · have e : ((M + N : Nat) : Int) * D = M * D + N * D := by simp [Int.add_mul]
    omega
theorem Ov.sub {D M N : Nat} {x y : Rat} (hD : 0 < D) (h : Ov D M x) (k : Ov D N y) (hle : y ≤ x) : Ov D M (x - y) := by
  obtain ⟨a, rfl, h0, h1⟩ := h
  obtain ⟨b, rfl, k0, k1⟩ := k
  have hba : b ≤ a := by
    have h2 := (divInt_le (show (0 : Int) < D by omega) (show (0 : Int) < D by omega)).1 hle
    exact Int.le_of_mul_le_mul_right h2 (by omega)
  refine ⟨a - b, ?_, by omega, by omega⟩
  rw [Rat.divInt_sub_divInt _ _ (by omega) (by omega), ← Int.sub_mul, Rat.divInt_mul_right (by omega)]
theorem Ov.int {D M : Nat} {p : Int} (hD : 0 < D) (h0 : 0 ≤ p) (h1 : p ≤ M) : Ov D M (p : Rat) := by
  refine ⟨p * D, ?_, Int.mul_nonneg h0 (by omega), Int.mul_le_mul_of_nonneg_right h1 (by omega)⟩
  rw [← divInt_one p]
  have := Rat.divInt_mul_right (n := p) (d := 1) (a := (D : Int)) (by omega)
  rw [Int.one_mul] at this
  exact this.symm
theorem Ov.mono {D M N : Nat} {x : Rat} (h : Ov D M x) (hM : M ≤ N) : Ov D N x := by
  obtain ⟨a, rfl, h0, h1⟩ := h
  exact ⟨a, rfl, h0, Int.le_trans h1 (Int.mul_le_mul_of_nonneg_right (by omega) (by omega))⟩
theorem Ov.nonneg {D M : Nat} {x : Rat} (h : Ov D M x) : 0 ≤ x := by
  obtain ⟨a, rfl, h0, h1⟩ := h
  by_cases hD : D = 0
  · subst hD; simp
  · exact Rat.divInt_nonneg h0 (by omega)
theorem minQ_le_left (p q : Rat) : minQ p q ≤ p := by
  unfold minQ
  by_cases h : p ≤ q
  · rw [if_pos h]; exact Rat.le_refl
  · rw [if_neg h]; exact (Rat.le_total).resolve_left h
theorem minQ_le_right (p q : Rat) : minQ p q ≤ q := by
  unfold minQ
  by_cases h : p ≤ q
  · rw [if_pos h]; exact h
  · rw [if_neg h]; exact Rat.le_refl
theorem Ov.minq {D M N : Nat} {x : Rat} {p : Int} (hD : 0 < D) (h : Ov D M x) (h0 : 0 ≤ p) (h1 : p ≤ N) : Ov D N (minQ x p) := by
  have hp := Ov.int hD h0 h1
  unfold minQ
  by_cases hle : x ≤ (p : Rat)
  · rw [if_pos hle]
    obtain ⟨a, rfl, g0, g1⟩ := h
    obtain ⟨b, hb, k0, k1⟩ := hp
    refine ⟨a, rfl, g0, ?_⟩
    rw [hb] at hle
    have h2 := (divInt_le (show (0 : Int) < D by omega) (show (0 : Int) < D by omega)).1 hle
    have := Int.le_of_mul_le_mul_right h2 (by omega)
    omega
  · rw [if_neg hle]; exact hp
theorem Ov.self {x : Rat} {M : Int} (h0 : 0 ≤ x) (h1 : x ≤ (M : Rat)) : Ov x.den M.toNat x := by
  have hd := x.den_pos
  have e := Rat.num_divInt_den x
  have hn : 0 ≤ x.num := Rat.num_nonneg.2 h0
  refine ⟨x.num, e.symm, hn, ?_⟩
  rw [← e, ← divInt_one M] at h1
  have h2 := (divInt_le (show (0 : Int) < x.den by omega) (show (0 : Int) < 1 by decide)).1 h1
  have h3 : 0 ≤ M := by
    by_cases hneg : M < 0
    · have := Int.mul_neg_of_neg_of_pos hneg (show (0 : Int) < x.den by omega)
      omega
    · omega
  rw [Int.toNat_of_nonneg h3]
  omega

/-! ### Dividing -/
def doOne (parts : List Int) (j : Nat) (st : List Rat × Rat) : List Rat × Rat := (st.1.set j (st.1[j]?.getD 0 + minQ st.2 ((parts[j]?.getD 0 : Int) : Rat)), st.2 - minQ st.2 ((parts[j]?.getD 0 : Int) : Rat))
/-- Curves m - 1, ..., 0. -/
def shareSt (parts : List Int) : Nat → List Rat × Rat → List Rat × Rat
  | 0, st => st
  | m + 1, st => shareSt parts m (doOne parts m st)
def shareAll : List Lv → List Rat × Rat → List Rat × Rat
  | [], st => st
  | x :: s, st => shareAll s (shareSt x.2.2 x.2.2.length st)
def shareQ (s : List Lv) (q : Rat) : List Rat := (shareAll s (List.replicate (lvAt s 0).2.2.length 0, q)).1
def wrongE (s : List Lv) (q : Rat) : Int := if checkE s = 0 then (if q < 0 ∨ ((totalE s : Int) : Rat) < q then 1 else 0) else checkE s
def costSt : List Lv → Rat × Rat → Rat × Rat
  | [], st => st
  | x :: s, st => costSt s (st.1 + minQ st.2 (x.2.1 : Rat) * (x.1 : Rat), st.2 - minQ st.2 (x.2.1 : Rat))
def costQ (s : List Lv) (q : Rat) : Rat := (costSt s (0, q)).1
#print axioms Ov.fits
end Go.Proofs.YtlaemhigmgmgjaaGreat
/- stack: wrong: what it returns. No condition beyond sizes. -/
namespace Go.Proofs.YtlaemhigmgmgjaaGreat
set_option linter.unusedVariables false
set_option linter.unusedSimpArgs false
open Go.RowKit

theorem fits_int {z : Int} (h : z.natAbs < 4294967296) : Fits (z : Rat) 1 := by
  refine ⟨dig_length_le (by simpa using h), dig_length_le (by simp)⟩

set_option maxRecDepth 100000 in
set_option maxHeartbeats 2000000 in
theorem wrong_calls (ok : Nat → Option Obj → Prop) (A : Option Addr) (n c : Nat) (s : List Lv) (u : Value) (q : Rat) (k : Nat) (w : World) (h : Row Kd.level ok w (.slice A n c) s) (hu : QIn (fun _ _ => True) w u q k) (hk : k ≤ 100000000) (hk1 : 1 ≤ k) (hq : 0 ≤ q) :
    Calls Tryz.prog 66 #[.slice A n c, u] w fun e w' => Below w.heap.size w w' ∧ e = .returned (.int .i64 (wrongE s q)) := by
  obtain ⟨t0, A0, m0, c0, s0, B0, j0, d0, rfl, HU⟩ := hu.form
  obtain ⟨W, hW, g0, hB, hs⟩ := one_box w (.cells #[.bool t0, .slice A0 m0 c0, .bool s0, .slice B0 j0 d0] 44)
  have G0 := Lib.hid g0
  have HB := Lib.hid hB
  have HR := Lib.hid (h.below hB)
  have HQ := Lib.hid (HU.out.below hB)
  have HQ0 := Lib.hid hq
  clear hq g0 hB hs hu h
  go_enter Tryz.func66, Tryz.ntmps66
  go_wp2_with fail
  clear hW
  refine (check_calls ok _ _ _ s _ HR.out).mono ?_
  rintro e w1 ⟨hb1, rfl⟩
  have HB1 := Lib.hid hb1
  have hg := heap_below hb1 G0.out
  have a0 : w1.drew.cell? ⟨w.heap.size, 0, none⟩ = some (.bool t0) := hcell (heap_drew hg) 0 rfl
  have a1 : w1.drew.cell? ⟨w.heap.size, 1, none⟩ = some (.slice A0 m0 c0) := hcell (heap_drew hg) 1 rfl
  have a2 : w1.drew.cell? ⟨w.heap.size, 2, none⟩ = some (.bool s0) := hcell (heap_drew hg) 2 rfl
  have a3 : w1.drew.cell? ⟨w.heap.size, 3, none⟩ = some (.slice B0 j0 d0) := hcell (heap_drew hg) 3 rfl
  have HQ1 := Lib.hid (HQ.out.below hb1).drew
  have HR1 := Lib.hid (HR.out.below hb1).drew
  clear hb1 hg
  obtain ⟨d, hd⟩ : ∃ d, d = checkE s := ⟨_, rfl⟩
  rw [← hd]
  by_cases h0 : d = 0
  · have e : wrongE s q = if q < 0 ∨ ((totalE s : Int) : Rat) < q then 1 else 0 := by unfold wrongE; rw [if_pos (hd ▸ h0)]
    have HE := Lib.hid e
    clear e hd
    subst h0
    obtain ⟨g, hg⟩ : ∃ g, g = cmpQ q 0 := ⟨_, rfl⟩
    have HG := Lib.hid hg
    by_cases hneg : g < 0
    · exfalso
      rw [hg] at hneg
      unfold cmpQ at hneg
      by_cases hq2 : q ≤ 0
      · rw [if_pos hq2, if_pos HQ0.out] at hneg; exact absurd hneg (by decide)
      · rw [if_neg hq2] at hneg; exact absurd hneg (by decide)
    · have e : wrongE s q = if ((totalE s : Int) : Rat) < q then 1 else 0 := by
        rw [HE.out]
        have h1 : ¬ q < 0 := fun h => by
          rw [hg] at hneg
          unfold cmpQ at hneg
          rw [if_pos (Rat.le_of_lt h), if_neg (Rat.not_le.2 h)] at hneg
          exact hneg (by decide)
        simp [h1]
      have HE2 := Lib.hid e
      have hge : 0 ≤ g := by omega
      have ht := totalE_le s
      obtain ⟨t, htd⟩ : ∃ t, t = totalE s := ⟨_, rfl⟩
      rw [← htd] at ht HE2
      have HTT := Lib.hid htd
      have HT := Lib.hid ht
      obtain ⟨f, hf⟩ : ∃ f, f = cmpQ q (t : Rat) := ⟨_, rfl⟩
      have HF := Lib.hid hf
      clear e hg hneg ht htd hf
      go_wp2_with fail
      have hng : ¬ (g < 0) := by omega
      have hnd : decide (g < 0) = false := by rw [decide_eq_false_iff_not]; exact hng
      go_region_held3 (fun w' => w'.cell? ⟨w.heap.size, 0, none⟩ = some (.bool t0) ∧ w'.cell? ⟨w.heap.size, 1, none⟩ = some (.slice A0 m0 c0) ∧ w'.cell? ⟨w.heap.size, 2, none⟩ = some (.bool s0) ∧ w'.cell? ⟨w.heap.size, 3, none⟩ = some (.slice B0 j0 d0))
        (first | with_reducible exact ⟨a0, a1, a2, a3⟩ | with_reducible exact ⟨k0, k1, k2, k3⟩ | go_keep)
        (first
          | (go_at_call 29; refine (fsign_calls _ q k _ (by exact HQ1.out) (by omega) hk1).mono ?_; rintro e w2 ⟨hb2, he⟩; rw [← HG.out] at he; subst he; have k0 := cell_below hb2 a0; have k1 := cell_below hb2 a1; have k2 := cell_below hb2 a2; have k3 := cell_below hb2 a3; have HB2 := Lib.hid hb2; clear hb2)
          | (go_at_call 89; refine (total_calls ok _ _ _ s _ (by exact HR1.out.below HB2.out)).mono ?_; rintro e w3 ⟨hb3, he⟩; rw [← HTT.out] at he; subst he; have k0 := cell_below hb3 k0; have k1 := cell_below hb3 k1; have k2 := cell_below hb3 k2; have k3 := cell_below hb3 k3; have HB3 := Lib.hid (below_next HB2.out hb3); clear hb3)
          | (go_at_call 21; refine (ffrom_calls t _ ⟨by have := HT.out; omega, by have := HT.out; omega⟩).mono ?_; rintro e w4 ⟨hb4, r4, rfl, hr4⟩; obtain ⟨t1, A1, m1, c1, s1, B1, j1, d1, rfl, Z4⟩ := hr4.open; have k0 := cell_below hb4 k0; have k1 := cell_below hb4 k1; have k2 := cell_below hb4 k2; have k3 := cell_below hb4 k3; have HB4 := Lib.hid (below_next HB3.out hb4); clear hb4 hr4)
          | (go_at_call 23; refine (fcmp_calls _ _ q (t : Rat) k _ (by exact HQ1.out.below HB4.out) (by exact ((Z4.out.qin (fits_int (by have := HT.out; omega))).any.le hk1)) hk hk1).mono ?_; rintro e w5 ⟨hb5, he⟩; rw [← HF.out] at he; subst he; have k0 := cell_below hb5 k0; have k1 := cell_below hb5 k1; have k2 := cell_below hb5 k2; have k3 := cell_below hb5 k3; have HB5 := Lib.hid (below_next HB4.out hb5); clear hb5))
      by_cases hpos : 0 < f
      · have e : wrongE s q = 1 := by
          rw [HE2.out, if_pos ?_]
          rw [HF.out] at hpos
          exact Rat.not_le.1 (fun h => by have := cmpQ_le.2 h; omega)
        have HE3 := Lib.hid e
        clear e
        go_wp2
        go_ret
        exact ⟨below_next (below_drew (below_next HB.out HB1.out)) HB5.out, by rw [HE3.out]; rfl⟩
      · have e : wrongE s q = 0 := by
          rw [HE2.out, if_neg ?_]
          rw [HF.out] at hpos
          exact Rat.not_lt.2 (cmpQ_le.1 (by omega))
        have HE3 := Lib.hid e
        have hle : f ≤ 0 := by omega
        clear e hpos
        go_wp2
        go_ret
        exact ⟨below_next (below_drew (below_next HB.out HB1.out)) HB5.out, by rw [HE3.out]; rfl⟩
  · have e : wrongE s q = d := by unfold wrongE; rw [if_neg (hd ▸ h0), hd]
    have HE := Lib.hid e
    have hf : (d == 0) = false := by rw [beq_eq_false_iff_ne]; exact h0
    clear e hd
    go_wp2
    go_ret
    exact ⟨below_next HB.out HB1.out, by rw [HE.out]; rfl⟩
#print axioms wrong_calls
end Go.Proofs.YtlaemhigmgmgjaaGreat
/- A new row of fractions in memory, written place by place. No condition. -/
namespace Go.Proofs.YtlaemhigmgmgjaaGreat
set_option linter.unusedVariables false
set_option linter.unusedSimpArgs false
open Go.RowKit

theorem far4hh {w : World} {x y z t : Value} {n0 k : Nat} {o : Option Obj} (h : k ≠ n0) (g : w.heap[k]? = o) : ((((w.setCell ⟨n0, 0, none⟩ x).setCell ⟨n0, 1, none⟩ y).setCell ⟨n0, 2, none⟩ z).setCell ⟨n0, 3, none⟩ t).heap[k]? = o :=
  set_far (set_far (set_far (set_far g h) h) h) h
/-- A canonical fraction. -/
def Kd.qc : Kd Rat where
  sz := 4
  pos := by decide
  rel := fun ok w q cs => ∃ (A : Option Addr) (c : Nat) (B : Option Addr) (d : Nat), cs = [.bool (decide (q.num < 0)), .slice A (dig q.num.natAbs).length c, .bool false, .slice B (dig (if q.den = 1 then 0 else q.den)).length d] ∧
    Row Kd.u32 ok w (.slice A (dig q.num.natAbs).length c) (dig q.num.natAbs) ∧ Row Kd.u32 ok w (.slice B (dig (if q.den = 1 then 0 else q.den)).length d) (dig (if q.den = 1 then 0 else q.den))
  len := fun ⟨_, _, _, _, h, _⟩ => by rw [h]; rfl
  one := fun ⟨_, _, _, _, h, _⟩ v hv => by
    rw [h] at hv
    simp only [List.mem_cons, List.not_mem_nil, or_false] at hv
    rcases hv with rfl | rfl | rfl | rfl <;> rfl
  mono := fun ho ⟨A, c, B, d, h, r1, r2⟩ => ⟨A, c, B, d, h, r1.mono ho, r2.mono ho⟩
  live := fun ⟨A, c, B, d, h, r1, r2⟩ => ⟨A, c, B, d, h, r1.live, r2.live⟩
  keep := fun hk ⟨A, c, B, d, h, r1, r2⟩ => ⟨A, c, B, d, h, r1.keep hk, r2.keep hk⟩
theorem QC.rel {n : Nat} {w : World} {a b c d : Value} {q : Rat} (h : QC n w (.agg #[a, b, c, d]) q) : Kd.qc.rel (New n) w q [a, b, c, d] := by
  obtain ⟨A, x, B, y, hv, r1, r2⟩ := h
  simp only [Value.agg.injEq, Array.mk.injEq, List.cons.injEq, and_true] at hv
  obtain ⟨rfl, rfl, rfl, rfl⟩ := hv
  exact ⟨A, x, B, y, rfl, r1, r2⟩

structure OutQ (w : World) (B : Nat) (os : List Rat) : Prop where
  blk : ∃ cs, w.heap[B]? = some (.cells cs 44 (0, 0))
  cell : ∀ j (h : j < os.length), ∃ a b c d, QC (B + 1) w (.agg #[a, b, c, d]) os[j] ∧ w.cell? ⟨B, j * 4, none⟩ = some a ∧ w.cell? ⟨B, j * 4 + 1, none⟩ = some b ∧ w.cell? ⟨B, j * 4 + 2, none⟩ = some c ∧ w.cell? ⟨B, j * 4 + 3, none⟩ = some d
section
variable {w w' : World} {B : Nat} {os : List Rat}
theorem OutQ.below (h : OutQ w B os) (hb : Below w.heap.size w w') : OutQ w' B os := by
  obtain ⟨⟨cs, h1⟩, h2⟩ := h
  refine ⟨⟨cs, heap_below hb h1⟩, fun j hj => ?_⟩
  obtain ⟨a, b, c, d, g, g0, g1, g2, g3⟩ := h2 j hj
  exact ⟨a, b, c, d, g.below hb, cell_below hb g0, cell_below hb g1, cell_below hb g2, cell_below hb g3⟩
theorem OutQ.lt (h : OutQ w B os) : B < w.heap.size := let ⟨_, h1⟩ := h.blk; (Array.getElem?_eq_some_iff.1 h1).1
theorem OutQ.far {x y z t : Value} {n0 : Nat} (h : OutQ w B os) (hn : n0 < B) : OutQ ((((w.setCell ⟨n0, 0, none⟩ x).setCell ⟨n0, 1, none⟩ y).setCell ⟨n0, 2, none⟩ z).setCell ⟨n0, 3, none⟩ t) B os := by
  obtain ⟨⟨cs, h1⟩, h2⟩ := h
  have hne : ¬ n0 = B := by omega
  refine ⟨⟨cs, far4h (by omega) h1⟩, fun j hj => ?_⟩
  obtain ⟨a, b, c, d, g, g0, g1, g2, g3⟩ := h2 j hj
  exact ⟨a, b, c, d, g.stored (Nat.le_refl _) (by omega), (far4 hne).trans g0, (far4 hne).trans g1, (far4 hne).trans g2, (far4 hne).trans g3⟩
theorem cell_off {w : World} {b i j : Nat} {v : Value} (h : j ≠ i) : (w.setCell ⟨b, i, none⟩ v).cell? ⟨b, j, none⟩ = w.cell? ⟨b, j, none⟩ :=
  World.cell?_setCell_other _ _ _ _ (fun e => h (by injection e with _ e1 _; exact e1.symm))
theorem cell_same {w : World} {b i : Nat} {v u : Value} (h : w.cell? ⟨b, i, none⟩ = some u) : (w.setCell ⟨b, i, none⟩ v).cell? ⟨b, i, none⟩ = some v := by
  have h0 := h
  unfold World.cell? at h0
  split at h0
  · rename_i c e fr h1
    have h3 := set_same (i := i) (v := v) h1
    have hi := (Array.getElem?_eq_some_iff.1 h0).1
    simp [World.cell?, h3, hi]
  · cases h0
theorem QC.kept {n m : Nat} {w w' : World} {v : Value} {q : Rat} (h : QC m w v q) (hk : ∀ k, m ≤ k → k < w.heap.size → w'.heap[k]? = w.heap[k]?) (hn : n ≤ m) : QC n w' v q := by
  obtain ⟨A, c, B, d, h1, h2, h3⟩ := h
  refine ⟨A, c, B, d, h1, ?_, ?_⟩
  · exact (h2.live.keep (w' := w') (fun k hk' => hk k hk'.1.1 hk'.2.1)).mono (fun k o hk' => New.mono hn _ _ hk'.1)
  · exact (h3.live.keep (w' := w') (fun k hk' => hk k hk'.1.1 hk'.2.1)).mono (fun k o hk' => New.mono hn _ _ hk'.1)
/-- One place is written. -/
theorem OutQ.put {a b c d : Value} {x : Rat} (h : OutQ w B os) {j : Nat} (hj : j < os.length) (hq : QC (B + 1) w (.agg #[a, b, c, d]) x) :
    OutQ ((((w.setCell ⟨B, j * 4, none⟩ a).setCell ⟨B, j * 4 + 1, none⟩ b).setCell ⟨B, j * 4 + 2, none⟩ c).setCell ⟨B, j * 4 + 3, none⟩ d) B (os.set j x) := by
  obtain ⟨⟨cs, h1⟩, h2⟩ := h
  have hkeep : ∀ k, B + 1 ≤ k → k < w.heap.size → ((((w.setCell ⟨B, j * 4, none⟩ a).setCell ⟨B, j * 4 + 1, none⟩ b).setCell ⟨B, j * 4 + 2, none⟩ c).setCell ⟨B, j * 4 + 3, none⟩ d).heap[k]? = w.heap[k]? := fun k hk _ =>
    set_far (set_far (set_far (set_far rfl (by show k ≠ B; omega)) (by show k ≠ B; omega)) (by show k ≠ B; omega)) (by show k ≠ B; omega)
  refine ⟨⟨_, set_same (set_same (set_same (set_same h1)))⟩, fun i hi => ?_⟩
  rw [List.length_set] at hi
  rw [List.getElem_set]
  by_cases hij : j = i
  · subst hij
    rw [if_pos rfl]
    obtain ⟨a', b', c', d', _, g0, g1, g2, g3⟩ := h2 j hj
    refine ⟨a, b, c, d, hq.kept hkeep (Nat.le_refl _), ?_, ?_, ?_, ?_⟩
    · exact (cell_off (by omega)).trans ((cell_off (by omega)).trans ((cell_off (by omega)).trans (cell_same g0)))
    · exact (cell_off (by omega)).trans ((cell_off (by omega)).trans (cell_same ((cell_off (by omega)).trans g1)))
    · exact (cell_off (by omega)).trans (cell_same ((cell_off (by omega)).trans ((cell_off (by omega)).trans g2)))
    · exact cell_same ((cell_off (by omega)).trans ((cell_off (by omega)).trans ((cell_off (by omega)).trans g3)))
  · rw [if_neg hij]
    obtain ⟨a', b', c', d', g, g0, g1, g2, g3⟩ := h2 i hi
    refine ⟨a', b', c', d', g.kept hkeep (Nat.le_refl _), ?_, ?_, ?_, ?_⟩
    · exact (cell_off (by omega)).trans ((cell_off (by omega)).trans ((cell_off (by omega)).trans ((cell_off (by omega)).trans g0)))
    · exact (cell_off (by omega)).trans ((cell_off (by omega)).trans ((cell_off (by omega)).trans ((cell_off (by omega)).trans g1)))
    · exact (cell_off (by omega)).trans ((cell_off (by omega)).trans ((cell_off (by omega)).trans ((cell_off (by omega)).trans g2)))
    · exact (cell_off (by omega)).trans ((cell_off (by omega)).trans ((cell_off (by omega)).trans ((cell_off (by omega)).trans g3)))
theorem QC.zero (n : Nat) (w : World) : QC n w (.agg #[.bool false, .slice none 0 0, .bool false, .slice none 0 0]) 0 := by
  refine ⟨none, 0, none, 0, ?_, ?_, ?_⟩
  · simp [dig_zero]
  · simpa [dig_zero] using Row.nil (K := Kd.u32) (ok := New n) (w := w) 0 none (fun _ => rfl)
  · simpa [dig_zero] using Row.nil (K := Kd.u32) (ok := New n) (w := w) 0 none (fun _ => rfl)
abbrev zcells : Array Value := #[.bool false, .slice none 0 0, .bool false, .slice none 0 0]
theorem info_q : (Tryz.prog.info? 44).map (fun i => (i.zero, i.size, i.bytes)) = some (some (.agg zcells), 4, 64) := by kernel_rfl
theorem make_qs (n : Nat) (hn : n ≤ 16) (w : World) : (Instr.makeSlice 55 (.int .i64 (n : Int)) (.int .i64 (n : Int))).run Tryz.prog w = .ok (.slice (some ⟨w.heap.size, 0, none⟩) n n) (w.alloc (.cells (madeCells zcells (n * 4)) 44)) := by
  obtain ⟨i, hi, hzz⟩ := Option.map_eq_some_iff.1 info_q
  simp only [Prod.mk.injEq] at hzz
  obtain ⟨hz, hs, hb⟩ := hzz
  have hr := run_make (P := Tryz.prog) w 55 44 i (.agg zcells) Tryz.underlying55 hi hz .i64 .i64 n n (by omega) (Int.le_refl _) (by rw [hb]; omega) (by omega)
  simp only [Int.toNat_natCast, hs] at hr
  exact hr
theorem OutQ.made {n : Nat} (h : w.heap[B]? = some (.cells (madeCells zcells (n * 4)) 44 (0, 0))) : OutQ w B (List.replicate n 0) := by
  refine ⟨⟨_, h⟩, fun j hj => ?_⟩
  rw [List.length_replicate] at hj
  rw [List.getElem_replicate]
  have hc : ∀ i (hi : i < 4), (madeCells zcells (n * 4))[j * 4 + i]? = some (zcells[i]'hi) := fun i hi => by
    have h1 : (j * 4 + i) % 4 = i := by omega
    have h2 : j * 4 + i < n * 4 := by omega
    simp only [madeCells]
    rw [Array.getElem?_map, Array.getElem?_range, if_pos h2]
    simp only [Option.map_some]
    have h3 : zcells.size = 4 := rfl
    rw [h3, h1]
    simp [hi]
  exact ⟨_, _, _, _, QC.zero _ _, hcell h _ (hc 0 (by omega)), hcell h _ (hc 1 (by omega)), hcell h _ (hc 2 (by omega)), hcell h _ (hc 3 (by omega))⟩
theorem OutQ.row {n : Nat} (h : OutQ w B os) (hn : n ≤ B) (hl : os.length ≤ 16) : Row Kd.qc (New n) w (.slice (some ⟨B, 0, none⟩) os.length os.length) os := by
  obtain ⟨⟨cs, h1⟩, h2⟩ := h
  refine ⟨_, os.length, rfl, ⟨Nat.le_refl _, fun h => by cases h⟩, by omega, fun _ => ⟨B, 0, rfl, ⟨hn, by rw [h1]; exact thawed_cells _ _⟩, fun j hj => ?_⟩⟩
  obtain ⟨a, b, c, d, g, g0, g1, g2, g3⟩ := h2 j hj
  refine ⟨[a, b, c, d], Kd.qc.mono (fun k o hk => New.mono (by omega) _ _ hk) g.rel, fun i hi => ?_⟩
  have hi4 : i < 4 := hi
  show w.cell? ⟨B, 0 + j * 4 + i, none⟩ = _
  rw [Nat.zero_add]
  rcases i with _ | _ | _ | _ | i
  · exact g0
  · exact g1
  · exact g2
  · exact g3
  · omega
end
#print axioms OutQ.put
#print axioms OutQ.made
end Go.Proofs.YtlaemhigmgmgjaaGreat
