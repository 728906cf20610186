/- step: Negate: what it returns, of a curve whose prices are in bounds. -/
import Derived.Test.YtlaemhigmgmgjaaGreatK5
import Derived.Test.YtlaemhigmgmgjaaGreatK11
namespace Go.Proofs.YtlaemhigmgmgjaaGreat
set_option linter.unusedVariables false
set_option linter.unusedSimpArgs false
open Go.RowKit

def stepsV (l : List (Int × Int)) : List Value := (l.map (fun s => [Value.int .i64 s.1, Value.int .i64 s.2])).flatten
theorem stepsV_cons (s : Int × Int) (l : List (Int × Int)) : stepsV (s :: l) = Value.int .i64 s.1 :: Value.int .i64 s.2 :: stepsV l := by simp [stepsV]
theorem stepsV_len : ∀ l : List (Int × Int), (stepsV l).length = l.length * 2
  | [] => rfl
  | s :: l => by rw [stepsV_cons, List.length_cons, List.length_cons, stepsV_len l, List.length_cons]; omega
theorem stepsV_set (a b q p : Int) (post : List (Int × Int)) : ∀ pre : List (Int × Int), ((stepsV (pre ++ (a, b) :: post)).set (pre.length * 2) (Value.int .i64 q)).set (pre.length * 2 + 1) (Value.int .i64 p) = stepsV (pre ++ (q, p) :: post)
  | [] => by simp [stepsV_cons]
  | s :: pre => by
    have h := stepsV_set a b q p post pre
    rw [List.cons_append, List.cons_append, stepsV_cons, stepsV_cons, List.length_cons, show (pre.length + 1) * 2 = pre.length * 2 + 1 + 1 by omega, List.set_cons_succ, List.set_cons_succ, List.set_cons_succ, List.set_cons_succ, h]
theorem stepsV_get : ∀ (l : List (Int × Int)) (k : Nat) (hk : k < l.length), (stepsV l)[k * 2]? = some (Value.int .i64 l[k].1) ∧ (stepsV l)[k * 2 + 1]? = some (Value.int .i64 l[k].2)
  | s :: l, 0, _ => by rw [stepsV_cons]; exact ⟨rfl, rfl⟩
  | s :: l, k + 1, hk => by
    have h := stepsV_get l k (by simpa using hk)
    rw [stepsV_cons, show (k + 1) * 2 = k * 2 + 1 + 1 by omega]
    simpa using h
def fillS (xs : List (Int × Int)) (k : Nat) : List (Int × Int) := xs.take k ++ List.replicate (xs.length - k) (0, 0)
theorem fillS_split {xs : List (Int × Int)} {k : Nat} (h : k < xs.length) : fillS xs k = xs.take k ++ (0, 0) :: List.replicate (xs.length - (k + 1)) (0, 0) := by
  unfold fillS
  rw [show xs.length - k = (xs.length - (k + 1)) + 1 by omega, List.replicate_succ]
theorem fillS_next {xs : List (Int × Int)} {k : Nat} (h : k < xs.length) : ((stepsV (fillS xs k)).set (k * 2) (Value.int .i64 xs[k].1)).set (k * 2 + 1) (Value.int .i64 xs[k].2) = stepsV (fillS xs (k + 1)) := by
  rw [fillS_split h]
  have e := stepsV_set 0 0 xs[k].1 xs[k].2 (List.replicate (xs.length - (k + 1)) (0, 0)) (xs.take k)
  rw [List.length_take, Nat.min_eq_left (by omega)] at e
  rw [e]
  unfold fillS
  rw [List.take_succ_eq_append_getElem h, List.append_assoc]
  rfl
theorem fillS_all (xs : List (Int × Int)) : fillS xs xs.length = xs := by unfold fillS; simp
theorem stepsV_zero : ∀ n : Nat, stepsV (List.replicate n (0, 0)) = List.replicate (n * 2) (Value.int .i64 0)
  | 0 => rfl
  | n + 1 => by rw [List.replicate_succ, stepsV_cons, stepsV_zero n, show (n + 1) * 2 = n * 2 + 1 + 1 by omega, List.replicate_succ, List.replicate_succ]
theorem made_steps (n : Nat) (_ : n ≤ 3) : madeCells #[Value.int .i64 0, Value.int .i64 0] (n * 2) = (stepsV (List.replicate n (0, 0))).toArray := by
  rw [stepsV_zero]
  apply Array.ext
  · simp [madeCells]
  · intro i h1 h2
    rcases Nat.mod_two_eq_zero_or_one i with h | h <;> simp [madeCells, h]
theorem info_step2 : (Tryz.prog.info? 99).map (fun i => (i.zero, i.size, i.bytes)) = some (some (.agg #[.int .i64 0, .int .i64 0]), 2, 16) := by kernel_rfl
theorem make_steps (n : Nat) (hn : n ≤ 3) (w : World) : (Instr.makeSlice 23 (.int .i64 (n : Int)) (.int .i64 (n : Int))).run Tryz.prog w = .ok (.slice (some ⟨w.heap.size, 0, none⟩) n n) (w.alloc (.cells (stepsV (List.replicate n (0, 0))).toArray 99)) := by
  obtain ⟨i, hi, hzz⟩ := Option.map_eq_some_iff.1 info_step2
  simp only [Prod.mk.injEq] at hzz
  obtain ⟨hz, hs, hb⟩ := hzz
  have hr := run_make (P := Tryz.prog) w 23 99 i (.agg #[.int .i64 0, .int .i64 0]) Tryz.underlying23 hi hz .i64 .i64 n n (by omega) (Int.le_refl _) (by rw [hb]; omega) (by omega)
  simp only [Int.toNat_natCast, hs] at hr
  rw [← made_steps n hn]
  exact hr
def StpB (w : World) (b : Nat) (l : List (Int × Int)) : Prop := w.heap[b]? = some (.cells (stepsV l).toArray 99 (0, 0))
theorem StpB.row {w : World} {b n : Nat} {l : List (Int × Int)} (h : StpB w b l) (hn : n ≤ b) (hl : l.length ≤ 3) (hi : ∀ s ∈ l, I64 s.1 ∧ I64 s.2) : Row Kd.step (New n) w (.slice (some ⟨b, 0, none⟩) l.length l.length) l :=
  Row.blk Kd.step l (l.map (fun s => [Value.int .i64 s.1, Value.int .i64 s.2])) h (by simp [stepsV]) (by simp) (fun j hj hj' => by
    rw [List.getElem_map]
    have := hi _ (List.getElem_mem hj)
    exact ⟨rfl, this⟩) ⟨hn, by rw [h]; exact thawed_cells _ _⟩ rfl (Nat.le_refl _) (by omega)
set_option maxRecDepth 100000 in
set_option maxHeartbeats 2000000 in
theorem negate_calls (ok : Nat → Option Obj → Prop) (A : Option Addr) (n c : Nat) (l : List (Int × Int)) (w : World) (h : Row Kd.step ok w (.slice A n c) l) (hl : l.length ≤ 3) (hin : ∀ s ∈ l, StepIn s) :
    Calls Tryz.prog 48 #[.slice A n c] w fun e w' => Below w.heap.size w w' ∧ ∃ A2, e = .returned (.slice A2 l.length l.length) ∧ Row Kd.step (New w.heap.size) w' (.slice A2 l.length l.length) (turnF l) := by
  obtain rfl := h.len
  obtain ⟨xs, hxs⟩ : ∃ xs, xs = turnF l := ⟨_, rfl⟩
  have hxl : xs.length = l.length := by rw [hxs]; unfold turnF; simp
  rw [← hxs]
  obtain ⟨W, hW, g0, hB, hs⟩ := one_box w (.cells (stepsV (List.replicate l.length (0, 0))).toArray 99)
  have mk := make_steps l.length hl w
  rw [hW] at mk
  have HB := Lib.hid hB
  have HBL : Hid (StpB W w.heap.size (fillS xs 0)) := Lib.hid (by unfold fillS; rw [List.take_zero, List.nil_append, hxl]; exact g0)
  have HR := Lib.hid h
  have HIN := Lib.hid hin
  have HXS := Lib.hid hxs
  have HXL := Lib.hid hxl
  clear g0 hB hs h hin hxs hxl
  go_enter Tryz.func48, Tryz.ntmps48
  go_wp2_with fail
  clear mk hW
  go_loopw [11] (fun i wr => ∃ k : Nat, k ≤ l.length ∧ i = .int .i64 k ∧ Hid (StpB wr w.heap.size (fillS xs k)) ∧ Hid (Below w.heap.size w wr))
    (fun i _ => l.length - (intOf i).toNat)
  case atStart => exact ⟨0, Nat.zero_le _, rfl, HBL.out, HB.out⟩
  case round =>
    obtain ⟨k, hk, rfl, HK, HBW⟩ := hrel
    by_cases hlt : k < l.length
    · obtain ⟨b, off, rfl, hq, hp, iq, ip⟩ := step_cell (HR.out.below HBW.out) hlt
      have hlx : k < xs.length := by rw [HXL.out]; exact hlt
      have hsi := HIN.out l[k] (List.getElem_mem _)
      have hxk : xs[k] = (l[k].1, -l[k].2) := by
        have h1 := HXS.out
        subst h1
        exact List.getElem_map _
      have hfn := fillS_next hlx
      rw [hxk] at hfn
      obtain ⟨qt, hqd⟩ : ∃ z, z = l[k].1 := ⟨_, rfl⟩
      obtain ⟨p, hpd⟩ : ∃ z, z = l[k].2 := ⟨_, rfl⟩
      unfold StepIn at hsi
      rw [← hqd, ← hpd] at hsi hfn
      rw [← hqd] at hq
      rw [← hpd] at hp
      simp only at hfn
      have HFN := Lib.hid hfn
      have hneg : IntKind.i64.wrap (-p) = -p := IntWalk.i64_in _ ⟨by omega, by omega⟩
      have hk0 : (0 : Int) ≤ (k : Int) := by omega
      have hk1 : (k : Int) < (l.length : Int) := by omega
      have hget := stepsV_get (fillS xs k) k (by unfold fillS; simp; omega)
      obtain ⟨u0, hu0⟩ : ∃ u, (stepsV (fillS xs k))[k * 2]? = some u := ⟨_, hget.1⟩
      obtain ⟨u1, hu1⟩ : ∃ u, (stepsV (fillS xs k))[k * 2 + 1]? = some u := ⟨_, hget.2⟩
      obtain ⟨wx, hWx, gx, hBx, hsx⟩ := one_box wr (.cells #[.int .i64 qt, .int .i64 p] 99)
      have hgb := heap_below hBx HK.out
      have z0 : wx.cell? ⟨wr.heap.size, 0, none⟩ = some (.int .i64 qt) := hcell gx 0 rfl
      have z1 : wx.cell? ⟨wr.heap.size, 1, none⟩ = some (.int .i64 p) := hcell gx 1 rfl
      have v0 : wx.cell? ⟨w.heap.size, k * 2, none⟩ = some u0 := hcell hgb _ (by simpa using hu0)
      have v1 : wx.cell? ⟨w.heap.size, k * 2 + 1, none⟩ = some u1 := hcell hgb _ (by simpa using hu1)
      have f0 := hfree hgb (k * 2)
      have f1 := hfree hgb (k * 2 + 1)
      have HGB := Lib.hid hgb
      have HBX := Lib.hid (below_next HBW.out hBx)
      clear hqd hpd iq ip hfn hget hu0 hu1 gx hBx hsx hgb hxk hlx
      go_upto_region 5 with fail
      clear hWx hq hp
      go_wp2
      have HKN : Hid (StpB ((wx.setCell ⟨w.heap.size, k * 2, none⟩ (.int .i64 qt)).setCell ⟨w.heap.size, k * 2 + 1, none⟩ (.int .i64 (-p))) w.heap.size (fillS xs (k + 1))) := Lib.hid (by
        have h1 := set_same (i := k * 2 + 1) (v := .int .i64 (-p)) (set_same (i := k * 2) (v := .int .i64 qt) HGB.out)
        unfold StpB
        rw [h1, ← HFN.out]
        simp)
      have HBN : Hid (Below w.heap.size w ((wx.setCell ⟨w.heap.size, k * 2, none⟩ (.int .i64 qt)).setCell ⟨w.heap.size, k * 2 + 1, none⟩ (.int .i64 (-p)))) := Lib.hid ((HBX.out.setCell (p := ⟨w.heap.size, k * 2, none⟩) (Nat.le_refl _) _).setCell (p := ⟨w.heap.size, k * 2 + 1, none⟩) (Nat.le_refl _) _)
      clear z0 z1 v0 v1 f0 f1
      go_roundw
      case rel => exact ⟨k + 1, hlt, by go_num, HKN.out, HBN.out⟩
      case measure => simp [intOf]; omega
    · obtain rfl : k = l.length := by omega
      have hk2 := HK.out
      rw [← HXL.out, fillS_all] at hk2
      have hrow := hk2.row (Nat.le_refl _) (by rw [HXL.out]; exact hl) (fun s hs => by
        have h1 := HXS.out
        subst h1
        obtain ⟨t, ht, rfl⟩ := List.mem_map.1 hs
        have := HIN.out t ht
        unfold StepIn at this
        unfold I64
        simp only
        omega)
      rw [HXL.out] at hrow
      have HR2 := Lib.hid hrow
      clear hk2 hrow
      go_wp2
      go_ret
      exact ⟨HBW.out, _, rfl, HR2.out⟩
#print axioms negate_calls
end Go.Proofs.YtlaemhigmgmgjaaGreat
