/- Several texts of my own, joined. No condition beyond what each theorem states. -/
import Derived.Test.YtlaemhigmgmgjaaGreatK2
import Derived.Deep.DeepCutAuto
import Derived.Deep.RegionWith
import Derived.Carry
import Derived.Laws.EntriesVeiled
import Derived.WideMake
/- frac: the closures of does: what they return. No condition beyond sizes. (Printed by tools/lam.py.) -/
namespace Go.Proofs.YtlaemhigmgmgjaaGreat
set_option linter.unusedVariables false
set_option linter.unusedSimpArgs false
open Go.RowKit

theorem ZIn.lt {ok : Nat → Option Obj → Prop} {w : World} {v : Value} {x : Int} {k : Nat} (h : ZIn ok w v x k) : x.natAbs < 4294967296 ^ k := by
  obtain ⟨g, A, c, l, _, hr, rfl, hl⟩ := h
  rw [zv_natAbs]
  exact Nat.lt_of_lt_of_le (nv_lt hr.wf) (Nat.pow_le_pow_right (by decide) hl)
section
variable {ok : Nat → Option Obj → Prop} {w : World} {a b c d : Value} {x y z t : Int} {k : Nat}
theorem mul_lt' (h : ZIn ok w a x k) (h' : ZIn ok w b y k) : (x * y).natAbs < 4294967296 ^ (2 * k) := by
  rw [Int.natAbs_mul, show 2 * k = k + k by omega, Nat.pow_add]
  exact Nat.mul_lt_mul'' h.lt h'.lt
theorem mul_len (h : ZIn ok w a x k) (h' : ZIn ok w b y k) : (dig (x * y).natAbs).length ≤ 2 * k := dig_length_le (mul_lt' h h')
theorem sum_len_add (h1 : ZIn ok w a x k) (h2 : ZIn ok w b t k) (h3 : ZIn ok w c z k) (h4 : ZIn ok w d y k) : (dig (x * t + z * y).natAbs).length ≤ 2 * k + 1 := by
  refine dig_length_le (Nat.lt_of_le_of_lt (Int.natAbs_add_le _ _) ?_)
  have e1 := mul_lt' h1 h2
  have e2 := mul_lt' h3 h4
  rw [Nat.pow_succ]
  omega
theorem sum_len_sub (h1 : ZIn ok w a x k) (h2 : ZIn ok w b t k) (h3 : ZIn ok w c z k) (h4 : ZIn ok w d y k) : (dig (x * t - z * y).natAbs).length ≤ 2 * k + 1 := by
  have e1 := mul_lt' h1 h2
  have e2 := mul_lt' h3 h4
  refine dig_length_le ?_
  rw [Nat.pow_succ]
  omega
end
theorem ZC.stored4 {n m n0 : Nat} {w : World} {v x y s t : Value} {z : Int} (h : ZC m w v z) (hn : n ≤ m) (h0 : n0 < m) : ZC n ((((w.setCell ⟨n0, 0, none⟩ x).setCell ⟨n0, 1, none⟩ y).setCell ⟨n0, 2, none⟩ s).setCell ⟨n0, 3, none⟩ t) v z := by
  obtain ⟨A, c, h1, h2⟩ := h
  exact ⟨A, c, h1, (h2.four h0).new hn⟩

set_option maxRecDepth 100000 in
set_option maxHeartbeats 4000000 in
theorem lam_add (u v : Value) (x y z t : Int) (k : Nat) (w : World) (hu : QQ (fun _ _ => True) w u x y k) (hv : QQ (fun _ _ => True) w v z t k) (hk : k ≤ 200000000) :
    Calls Tryz.prog 78 #[u, v] w fun e w' => Below w.heap.size w w' ∧ ∃ r, e = .returned r ∧ QQ (fun _ _ => True) w' r (x * t + z * y) (y * t) (2 * k + 1) := by
  obtain ⟨g1, A1, c1, l1, g2, A2, c2, l2, rfl, r1, r2, hx, hy, le1, le2⟩ := hu
  obtain ⟨g3, A3, c3, l3, g4, A4, c4, l4, rfl, r3, r4, hz, ht, le3, le4⟩ := hv
  obtain ⟨W, hW, g0, g1', g2', hB, hs⟩ := three_boxes w (.cells #[.bool g1, .slice A1 l1.length c1, .bool g2, .slice A2 l2.length c2] 88) (.cells #[.bool g3, .slice A3 l3.length c3, .bool g4, .slice A4 l4.length c4] 88) (.cells #[.bool false, .slice none 0 0, .bool false, .slice none 0 0] 88)
  have a0 : W.cell? ⟨w.heap.size, 0, none⟩ = some (.bool g1) := hcell g0 0 rfl
  have a1 : W.cell? ⟨w.heap.size, 1, none⟩ = some (.slice A1 l1.length c1) := hcell g0 1 rfl
  have a2 : W.cell? ⟨w.heap.size, 2, none⟩ = some (.bool g2) := hcell g0 2 rfl
  have a3 : W.cell? ⟨w.heap.size, 3, none⟩ = some (.slice A2 l2.length c2) := hcell g0 3 rfl
  have b0 : W.cell? ⟨w.heap.size + 1, 0, none⟩ = some (.bool g3) := hcell g1' 0 rfl
  have b1 : W.cell? ⟨w.heap.size + 1, 1, none⟩ = some (.slice A3 l3.length c3) := hcell g1' 1 rfl
  have b2 : W.cell? ⟨w.heap.size + 1, 2, none⟩ = some (.bool g4) := hcell g1' 2 rfl
  have b3 : W.cell? ⟨w.heap.size + 1, 3, none⟩ = some (.slice A4 l4.length c4) := hcell g1' 3 rfl
  have hX : ZIn (fun _ _ => True) W.drew (.agg #[.bool g1, .slice A1 l1.length c1]) x k := ⟨_, _, _, _, rfl, (r1.below hB).drew, hx, le1⟩
  have hY : ZIn (fun _ _ => True) W.drew (.agg #[.bool g2, .slice A2 l2.length c2]) y k := ⟨_, _, _, _, rfl, (r2.below hB).drew, hy, le2⟩
  have hZ : ZIn (fun _ _ => True) W.drew (.agg #[.bool g3, .slice A3 l3.length c3]) z k := ⟨_, _, _, _, rfl, (r3.below hB).drew, hz, le3⟩
  have hT : ZIn (fun _ _ => True) W.drew (.agg #[.bool g4, .slice A4 l4.length c4]) t k := ⟨_, _, _, _, rfl, (r4.below hB).drew, ht, le4⟩
  have HX := Lib.hid hX
  have HY := Lib.hid hY
  have HZ := Lib.hid hZ
  have HT := Lib.hid hT
  have G2 : Hid (W.heap[w.heap.size + 1 + 1]? = some (.cells #[.bool false, .slice none 0 0, .bool false, .slice none 0 0] 88 (0, 0))) := Lib.hid g2'
  have HS := Lib.hid hs
  have HB := Lib.hid hB
  clear hX hY hZ hT g0 g1' g2' hs hB r1 r2 r3 r4 hx hy hz ht
  have n1 : ¬ (w.heap.size + 1 + 1 = w.heap.size) := by omega
  have n2 : ¬ (w.heap.size + 1 + 1 = w.heap.size + 1) := by omega
  go_enter Tryz.func78, Tryz.ntmps78
  go_wp2_with fail
  clear hW
  go_region_held3 (fun w' => w'.cell? ⟨w.heap.size, 0, none⟩ = some (.bool g1) ∧ w'.cell? ⟨w.heap.size, 1, none⟩ = some (.slice A1 l1.length c1) ∧ w'.cell? ⟨w.heap.size, 2, none⟩ = some (.bool g2) ∧ w'.cell? ⟨w.heap.size, 3, none⟩ = some (.slice A2 l2.length c2) ∧ w'.cell? ⟨w.heap.size + 1, 0, none⟩ = some (.bool g3) ∧ w'.cell? ⟨w.heap.size + 1, 1, none⟩ = some (.slice A3 l3.length c3) ∧ w'.cell? ⟨w.heap.size + 1, 2, none⟩ = some (.bool g4) ∧ w'.cell? ⟨w.heap.size + 1, 3, none⟩ = some (.slice A4 l4.length c4)) (first | exact ⟨k0, k1, k2, k3, k4, k5, k6, k7⟩ | go_keep | exact ⟨(far4 n1).trans k0, (far4 n1).trans k1, (far4 n1).trans k2, (far4 n1).trans k3, (far4 n2).trans k4, (far4 n2).trans k5, (far4 n2).trans k6, (far4 n2).trans k7⟩)
    (first
      | (go_at_call 55; refine (zmul_calls _ _ _ _ k _ (by exact HX.out) (by exact HT.out) (by omega)).mono ?_; rintro e w1 ⟨hb1, q1, rfl, z1⟩; obtain ⟨t1, B1, m1, e1, rfl, Z1⟩ := z1.open; have k0 := cell_below hb1 a0; have k1 := cell_below hb1 a1; have k2 := cell_below hb1 a2; have k3 := cell_below hb1 a3; have k4 := cell_below hb1 b0; have k5 := cell_below hb1 b1; have k6 := cell_below hb1 b2; have k7 := cell_below hb1 b3; have HB1 := Lib.hid hb1; clear hb1 z1)
      | (go_at_call 55; refine (zmul_calls _ _ _ _ k _ (by exact HZ.out.below HB1.out) (by exact HY.out.below HB1.out) (by omega)).mono ?_; rintro e w2 ⟨hb2, q2, rfl, z2⟩; obtain ⟨t2, B2, m2, e2, rfl, Z2⟩ := z2.open; have k0 := cell_below hb2 k0; have k1 := cell_below hb2 k1; have k2 := cell_below hb2 k2; have k3 := cell_below hb2 k3; have k4 := cell_below hb2 k4; have k5 := cell_below hb2 k5; have k6 := cell_below hb2 k6; have k7 := cell_below hb2 k7; have HB2 := Lib.hid hb2; clear hb2 z2)
      | (go_at_call 79; refine (zadd_calls _ _ _ _ (2 * k) _ (by exact ((Z1.out.below HB2.out).zin (mul_len HX.out HT.out)).any) (by exact (Z2.out.zin (mul_len HZ.out HY.out)).any) (by omega)).mono ?_; rintro e w3 ⟨hb3, q3, rfl, z3⟩; obtain ⟨t3, B3, m3, e3, rfl, Z3⟩ := z3.open; have k0 := cell_below hb3 k0; have k1 := cell_below hb3 k1; have k2 := cell_below hb3 k2; have k3 := cell_below hb3 k3; have k4 := cell_below hb3 k4; have k5 := cell_below hb3 k5; have k6 := cell_below hb3 k6; have k7 := cell_below hb3 k7; have HB3 := Lib.hid (below_next (below_next HB1.out HB2.out) hb3); clear hb3 z3)
      | (go_at_call 55; refine (zmul_calls _ _ _ _ k _ (by exact HY.out.below HB3.out) (by exact HT.out.below HB3.out) (by omega)).mono ?_; rintro e w4 ⟨hb4, q4, rfl, z4⟩; obtain ⟨t4, B4, m4, e4, rfl, Z4⟩ := z4.open; have k0 := cell_below hb4 k0; have k1 := cell_below hb4 k1; have k2 := cell_below hb4 k2; have k3 := cell_below hb4 k3; have k4 := cell_below hb4 k4; have k5 := cell_below hb4 k5; have k6 := cell_below hb4 k6; have k7 := cell_below hb4 k7; have hg3 := heap_below (below_next HB3.out hb4) (heap_drew G2.out); have p0 : w4.cell? ⟨w.heap.size + 1 + 1, 0, none⟩ = some (.bool false) := hcell hg3 0 rfl; have p1 : w4.cell? ⟨w.heap.size + 1 + 1, 1, none⟩ = some (.slice none 0 0) := hcell hg3 1 rfl; have p2 : w4.cell? ⟨w.heap.size + 1 + 1, 2, none⟩ = some (.bool false) := hcell hg3 2 rfl; have p3 : w4.cell? ⟨w.heap.size + 1 + 1, 3, none⟩ = some (.slice none 0 0) := hcell hg3 3 rfl; have f0 := hfree hg3 0; have f1 := hfree hg3 1; have f2 := hfree hg3 2; have f3 := hfree hg3 3; clear hg3; have Z3' := Lib.hid (Z3.out.below hb4); have HB4 := Lib.hid (below_next HB3.out hb4); clear hb4 z4))
  go_wp2
  refine bodyPost_ret (v := .agg #[.bool t3, .slice B3 m3 e3, .bool t4, .slice B4 m4 e4]) (by simp [results, Tryz.results78, go_sem, p0, p1, p2, p3]) rfl ?_
  have h1 := HS.out
  have h2 : W.heap.size ≤ w2.heap.size := Nat.le_trans HB1.out.size HB2.out.size
  have h3 : W.heap.size ≤ w3.heap.size := HB3.out.size
  refine ⟨four_stores (below_next (below_drew HB.out) HB4.out) (by omega), _, rfl, QQ.of (a := #[.bool t3, .slice B3 m3 e3]) (b := #[.bool t4, .slice B4 m4 e4]) ?_ ?_ rfl⟩
  · exact ((Z3'.out.stored4 (Nat.le_refl _) (by omega)).zin (sum_len_add HX.out HT.out HZ.out HY.out)).any
  · exact ((Z4.out.stored4 (Nat.le_refl _) (by omega)).zin (Nat.le_succ_of_le (mul_len HY.out HT.out))).any

set_option maxRecDepth 100000 in
set_option maxHeartbeats 4000000 in
theorem lam_sub (u v : Value) (x y z t : Int) (k : Nat) (w : World) (hu : QQ (fun _ _ => True) w u x y k) (hv : QQ (fun _ _ => True) w v z t k) (hk : k ≤ 200000000) :
    Calls Tryz.prog 80 #[u, v] w fun e w' => Below w.heap.size w w' ∧ ∃ r, e = .returned r ∧ QQ (fun _ _ => True) w' r (x * t - z * y) (y * t) (2 * k + 1) := by
  obtain ⟨g1, A1, c1, l1, g2, A2, c2, l2, rfl, r1, r2, hx, hy, le1, le2⟩ := hu
  obtain ⟨g3, A3, c3, l3, g4, A4, c4, l4, rfl, r3, r4, hz, ht, le3, le4⟩ := hv
  obtain ⟨W, hW, g0, g1', g2', hB, hs⟩ := three_boxes w (.cells #[.bool g1, .slice A1 l1.length c1, .bool g2, .slice A2 l2.length c2] 88) (.cells #[.bool g3, .slice A3 l3.length c3, .bool g4, .slice A4 l4.length c4] 88) (.cells #[.bool false, .slice none 0 0, .bool false, .slice none 0 0] 88)
  have a0 : W.cell? ⟨w.heap.size, 0, none⟩ = some (.bool g1) := hcell g0 0 rfl
  have a1 : W.cell? ⟨w.heap.size, 1, none⟩ = some (.slice A1 l1.length c1) := hcell g0 1 rfl
  have a2 : W.cell? ⟨w.heap.size, 2, none⟩ = some (.bool g2) := hcell g0 2 rfl
  have a3 : W.cell? ⟨w.heap.size, 3, none⟩ = some (.slice A2 l2.length c2) := hcell g0 3 rfl
  have b0 : W.cell? ⟨w.heap.size + 1, 0, none⟩ = some (.bool g3) := hcell g1' 0 rfl
  have b1 : W.cell? ⟨w.heap.size + 1, 1, none⟩ = some (.slice A3 l3.length c3) := hcell g1' 1 rfl
  have b2 : W.cell? ⟨w.heap.size + 1, 2, none⟩ = some (.bool g4) := hcell g1' 2 rfl
  have b3 : W.cell? ⟨w.heap.size + 1, 3, none⟩ = some (.slice A4 l4.length c4) := hcell g1' 3 rfl
  have hX : ZIn (fun _ _ => True) W.drew (.agg #[.bool g1, .slice A1 l1.length c1]) x k := ⟨_, _, _, _, rfl, (r1.below hB).drew, hx, le1⟩
  have hY : ZIn (fun _ _ => True) W.drew (.agg #[.bool g2, .slice A2 l2.length c2]) y k := ⟨_, _, _, _, rfl, (r2.below hB).drew, hy, le2⟩
  have hZ : ZIn (fun _ _ => True) W.drew (.agg #[.bool g3, .slice A3 l3.length c3]) z k := ⟨_, _, _, _, rfl, (r3.below hB).drew, hz, le3⟩
  have hT : ZIn (fun _ _ => True) W.drew (.agg #[.bool g4, .slice A4 l4.length c4]) t k := ⟨_, _, _, _, rfl, (r4.below hB).drew, ht, le4⟩
  have HX := Lib.hid hX
  have HY := Lib.hid hY
  have HZ := Lib.hid hZ
  have HT := Lib.hid hT
  have G2 : Hid (W.heap[w.heap.size + 1 + 1]? = some (.cells #[.bool false, .slice none 0 0, .bool false, .slice none 0 0] 88 (0, 0))) := Lib.hid g2'
  have HS := Lib.hid hs
  have HB := Lib.hid hB
  clear hX hY hZ hT g0 g1' g2' hs hB r1 r2 r3 r4 hx hy hz ht
  have n1 : ¬ (w.heap.size + 1 + 1 = w.heap.size) := by omega
  have n2 : ¬ (w.heap.size + 1 + 1 = w.heap.size + 1) := by omega
  go_enter Tryz.func80, Tryz.ntmps80
  go_wp2_with fail
  clear hW
  go_region_held3 (fun w' => w'.cell? ⟨w.heap.size, 0, none⟩ = some (.bool g1) ∧ w'.cell? ⟨w.heap.size, 1, none⟩ = some (.slice A1 l1.length c1) ∧ w'.cell? ⟨w.heap.size, 2, none⟩ = some (.bool g2) ∧ w'.cell? ⟨w.heap.size, 3, none⟩ = some (.slice A2 l2.length c2) ∧ w'.cell? ⟨w.heap.size + 1, 0, none⟩ = some (.bool g3) ∧ w'.cell? ⟨w.heap.size + 1, 1, none⟩ = some (.slice A3 l3.length c3) ∧ w'.cell? ⟨w.heap.size + 1, 2, none⟩ = some (.bool g4) ∧ w'.cell? ⟨w.heap.size + 1, 3, none⟩ = some (.slice A4 l4.length c4)) (first | exact ⟨k0, k1, k2, k3, k4, k5, k6, k7⟩ | go_keep | exact ⟨(far4 n1).trans k0, (far4 n1).trans k1, (far4 n1).trans k2, (far4 n1).trans k3, (far4 n2).trans k4, (far4 n2).trans k5, (far4 n2).trans k6, (far4 n2).trans k7⟩)
    (first
      | (go_at_call 55; refine (zmul_calls _ _ _ _ k _ (by exact HX.out) (by exact HT.out) (by omega)).mono ?_; rintro e w1 ⟨hb1, q1, rfl, z1⟩; obtain ⟨t1, B1, m1, e1, rfl, Z1⟩ := z1.open; have k0 := cell_below hb1 a0; have k1 := cell_below hb1 a1; have k2 := cell_below hb1 a2; have k3 := cell_below hb1 a3; have k4 := cell_below hb1 b0; have k5 := cell_below hb1 b1; have k6 := cell_below hb1 b2; have k7 := cell_below hb1 b3; have HB1 := Lib.hid hb1; clear hb1 z1)
      | (go_at_call 55; refine (zmul_calls _ _ _ _ k _ (by exact HZ.out.below HB1.out) (by exact HY.out.below HB1.out) (by omega)).mono ?_; rintro e w2 ⟨hb2, q2, rfl, z2⟩; obtain ⟨t2, B2, m2, e2, rfl, Z2⟩ := z2.open; have k0 := cell_below hb2 k0; have k1 := cell_below hb2 k1; have k2 := cell_below hb2 k2; have k3 := cell_below hb2 k3; have k4 := cell_below hb2 k4; have k5 := cell_below hb2 k5; have k6 := cell_below hb2 k6; have k7 := cell_below hb2 k7; have HB2 := Lib.hid hb2; clear hb2 z2)
      | (go_at_call 76; refine (zsub_calls _ _ _ _ (2 * k) _ (by exact ((Z1.out.below HB2.out).zin (mul_len HX.out HT.out)).any) (by exact (Z2.out.zin (mul_len HZ.out HY.out)).any) (by omega)).mono ?_; rintro e w3 ⟨hb3, q3, rfl, z3⟩; obtain ⟨t3, B3, m3, e3, rfl, Z3⟩ := z3.open; have k0 := cell_below hb3 k0; have k1 := cell_below hb3 k1; have k2 := cell_below hb3 k2; have k3 := cell_below hb3 k3; have k4 := cell_below hb3 k4; have k5 := cell_below hb3 k5; have k6 := cell_below hb3 k6; have k7 := cell_below hb3 k7; have HB3 := Lib.hid (below_next (below_next HB1.out HB2.out) hb3); clear hb3 z3)
      | (go_at_call 55; refine (zmul_calls _ _ _ _ k _ (by exact HY.out.below HB3.out) (by exact HT.out.below HB3.out) (by omega)).mono ?_; rintro e w4 ⟨hb4, q4, rfl, z4⟩; obtain ⟨t4, B4, m4, e4, rfl, Z4⟩ := z4.open; have k0 := cell_below hb4 k0; have k1 := cell_below hb4 k1; have k2 := cell_below hb4 k2; have k3 := cell_below hb4 k3; have k4 := cell_below hb4 k4; have k5 := cell_below hb4 k5; have k6 := cell_below hb4 k6; have k7 := cell_below hb4 k7; have hg3 := heap_below (below_next HB3.out hb4) (heap_drew G2.out); have p0 : w4.cell? ⟨w.heap.size + 1 + 1, 0, none⟩ = some (.bool false) := hcell hg3 0 rfl; have p1 : w4.cell? ⟨w.heap.size + 1 + 1, 1, none⟩ = some (.slice none 0 0) := hcell hg3 1 rfl; have p2 : w4.cell? ⟨w.heap.size + 1 + 1, 2, none⟩ = some (.bool false) := hcell hg3 2 rfl; have p3 : w4.cell? ⟨w.heap.size + 1 + 1, 3, none⟩ = some (.slice none 0 0) := hcell hg3 3 rfl; have f0 := hfree hg3 0; have f1 := hfree hg3 1; have f2 := hfree hg3 2; have f3 := hfree hg3 3; clear hg3; have Z3' := Lib.hid (Z3.out.below hb4); have HB4 := Lib.hid (below_next HB3.out hb4); clear hb4 z4))
  go_wp2
  refine bodyPost_ret (v := .agg #[.bool t3, .slice B3 m3 e3, .bool t4, .slice B4 m4 e4]) (by simp [results, Tryz.results80, go_sem, p0, p1, p2, p3]) rfl ?_
  have h1 := HS.out
  have h2 : W.heap.size ≤ w2.heap.size := Nat.le_trans HB1.out.size HB2.out.size
  have h3 : W.heap.size ≤ w3.heap.size := HB3.out.size
  refine ⟨four_stores (below_next (below_drew HB.out) HB4.out) (by omega), _, rfl, QQ.of (a := #[.bool t3, .slice B3 m3 e3]) (b := #[.bool t4, .slice B4 m4 e4]) ?_ ?_ rfl⟩
  · exact ((Z3'.out.stored4 (Nat.le_refl _) (by omega)).zin (sum_len_sub HX.out HT.out HZ.out HY.out)).any
  · exact ((Z4.out.stored4 (Nat.le_refl _) (by omega)).zin (Nat.le_succ_of_le (mul_len HY.out HT.out))).any

set_option maxRecDepth 100000 in
set_option maxHeartbeats 4000000 in
theorem lam_mul (u v : Value) (x y z t : Int) (k : Nat) (w : World) (hu : QQ (fun _ _ => True) w u x y k) (hv : QQ (fun _ _ => True) w v z t k) (hk : k ≤ 200000000) :
    Calls Tryz.prog 81 #[u, v] w fun e w' => Below w.heap.size w w' ∧ ∃ r, e = .returned r ∧ QQ (fun _ _ => True) w' r (x * z) (y * t) (2 * k + 1) := by
  obtain ⟨g1, A1, c1, l1, g2, A2, c2, l2, rfl, r1, r2, hx, hy, le1, le2⟩ := hu
  obtain ⟨g3, A3, c3, l3, g4, A4, c4, l4, rfl, r3, r4, hz, ht, le3, le4⟩ := hv
  obtain ⟨W, hW, g0, g1', g2', hB, hs⟩ := three_boxes w (.cells #[.bool g1, .slice A1 l1.length c1, .bool g2, .slice A2 l2.length c2] 88) (.cells #[.bool g3, .slice A3 l3.length c3, .bool g4, .slice A4 l4.length c4] 88) (.cells #[.bool false, .slice none 0 0, .bool false, .slice none 0 0] 88)
  have a0 : W.cell? ⟨w.heap.size, 0, none⟩ = some (.bool g1) := hcell g0 0 rfl
  have a1 : W.cell? ⟨w.heap.size, 1, none⟩ = some (.slice A1 l1.length c1) := hcell g0 1 rfl
  have a2 : W.cell? ⟨w.heap.size, 2, none⟩ = some (.bool g2) := hcell g0 2 rfl
  have a3 : W.cell? ⟨w.heap.size, 3, none⟩ = some (.slice A2 l2.length c2) := hcell g0 3 rfl
  have b0 : W.cell? ⟨w.heap.size + 1, 0, none⟩ = some (.bool g3) := hcell g1' 0 rfl
  have b1 : W.cell? ⟨w.heap.size + 1, 1, none⟩ = some (.slice A3 l3.length c3) := hcell g1' 1 rfl
  have b2 : W.cell? ⟨w.heap.size + 1, 2, none⟩ = some (.bool g4) := hcell g1' 2 rfl
  have b3 : W.cell? ⟨w.heap.size + 1, 3, none⟩ = some (.slice A4 l4.length c4) := hcell g1' 3 rfl
  have hX : ZIn (fun _ _ => True) W.drew (.agg #[.bool g1, .slice A1 l1.length c1]) x k := ⟨_, _, _, _, rfl, (r1.below hB).drew, hx, le1⟩
  have hY : ZIn (fun _ _ => True) W.drew (.agg #[.bool g2, .slice A2 l2.length c2]) y k := ⟨_, _, _, _, rfl, (r2.below hB).drew, hy, le2⟩
  have hZ : ZIn (fun _ _ => True) W.drew (.agg #[.bool g3, .slice A3 l3.length c3]) z k := ⟨_, _, _, _, rfl, (r3.below hB).drew, hz, le3⟩
  have hT : ZIn (fun _ _ => True) W.drew (.agg #[.bool g4, .slice A4 l4.length c4]) t k := ⟨_, _, _, _, rfl, (r4.below hB).drew, ht, le4⟩
  have HX := Lib.hid hX
  have HY := Lib.hid hY
  have HZ := Lib.hid hZ
  have HT := Lib.hid hT
  have G2 : Hid (W.heap[w.heap.size + 1 + 1]? = some (.cells #[.bool false, .slice none 0 0, .bool false, .slice none 0 0] 88 (0, 0))) := Lib.hid g2'
  have HS := Lib.hid hs
  have HB := Lib.hid hB
  clear hX hY hZ hT g0 g1' g2' hs hB r1 r2 r3 r4 hx hy hz ht
  have n1 : ¬ (w.heap.size + 1 + 1 = w.heap.size) := by omega
  have n2 : ¬ (w.heap.size + 1 + 1 = w.heap.size + 1) := by omega
  go_enter Tryz.func81, Tryz.ntmps81
  go_wp2_with fail
  clear hW
  go_region_held3 (fun w' => w'.cell? ⟨w.heap.size, 0, none⟩ = some (.bool g1) ∧ w'.cell? ⟨w.heap.size, 1, none⟩ = some (.slice A1 l1.length c1) ∧ w'.cell? ⟨w.heap.size, 2, none⟩ = some (.bool g2) ∧ w'.cell? ⟨w.heap.size, 3, none⟩ = some (.slice A2 l2.length c2) ∧ w'.cell? ⟨w.heap.size + 1, 0, none⟩ = some (.bool g3) ∧ w'.cell? ⟨w.heap.size + 1, 1, none⟩ = some (.slice A3 l3.length c3) ∧ w'.cell? ⟨w.heap.size + 1, 2, none⟩ = some (.bool g4) ∧ w'.cell? ⟨w.heap.size + 1, 3, none⟩ = some (.slice A4 l4.length c4)) (first | exact ⟨k0, k1, k2, k3, k4, k5, k6, k7⟩ | go_keep | exact ⟨(far4 n1).trans k0, (far4 n1).trans k1, (far4 n1).trans k2, (far4 n1).trans k3, (far4 n2).trans k4, (far4 n2).trans k5, (far4 n2).trans k6, (far4 n2).trans k7⟩)
    (first
      | (go_at_call 55; refine (zmul_calls _ _ _ _ k _ (by exact HX.out) (by exact HZ.out) (by omega)).mono ?_; rintro e w1 ⟨hb1, q1, rfl, z1⟩; obtain ⟨t1, B1, m1, e1, rfl, Z1⟩ := z1.open; have k0 := cell_below hb1 a0; have k1 := cell_below hb1 a1; have k2 := cell_below hb1 a2; have k3 := cell_below hb1 a3; have k4 := cell_below hb1 b0; have k5 := cell_below hb1 b1; have k6 := cell_below hb1 b2; have k7 := cell_below hb1 b3; have HB1 := Lib.hid hb1; clear hb1 z1)
      | (go_at_call 55; refine (zmul_calls _ _ _ _ k _ (by exact HY.out.below HB1.out) (by exact HT.out.below HB1.out) (by omega)).mono ?_; rintro e w2 ⟨hb2, q2, rfl, z2⟩; obtain ⟨t2, B2, m2, e2, rfl, Z2⟩ := z2.open; have k0 := cell_below hb2 k0; have k1 := cell_below hb2 k1; have k2 := cell_below hb2 k2; have k3 := cell_below hb2 k3; have k4 := cell_below hb2 k4; have k5 := cell_below hb2 k5; have k6 := cell_below hb2 k6; have k7 := cell_below hb2 k7; have hg3 := heap_below (below_next HB1.out hb2) (heap_drew G2.out); have p0 : w2.cell? ⟨w.heap.size + 1 + 1, 0, none⟩ = some (.bool false) := hcell hg3 0 rfl; have p1 : w2.cell? ⟨w.heap.size + 1 + 1, 1, none⟩ = some (.slice none 0 0) := hcell hg3 1 rfl; have p2 : w2.cell? ⟨w.heap.size + 1 + 1, 2, none⟩ = some (.bool false) := hcell hg3 2 rfl; have p3 : w2.cell? ⟨w.heap.size + 1 + 1, 3, none⟩ = some (.slice none 0 0) := hcell hg3 3 rfl; have f0 := hfree hg3 0; have f1 := hfree hg3 1; have f2 := hfree hg3 2; have f3 := hfree hg3 3; clear hg3; have Z1' := Lib.hid (Z1.out.below hb2); have HB2 := Lib.hid (below_next HB1.out hb2); clear hb2 z2))
  go_wp2
  refine bodyPost_ret (v := .agg #[.bool t1, .slice B1 m1 e1, .bool t2, .slice B2 m2 e2]) (by simp [results, Tryz.results81, go_sem, p0, p1, p2, p3]) rfl ?_
  have h1 := HS.out
  have h2 : W.heap.size ≤ w1.heap.size := HB1.out.size
  refine ⟨four_stores (below_next (below_drew HB.out) HB2.out) (by omega), _, rfl, QQ.of (a := #[.bool t1, .slice B1 m1 e1]) (b := #[.bool t2, .slice B2 m2 e2]) ?_ ?_ rfl⟩
  · exact ((Z1'.out.stored4 (Nat.le_refl _) (by show _ < W.heap.size; omega)).zin (Nat.le_succ_of_le (mul_len HX.out HZ.out))).any
  · exact ((Z2.out.stored4 (Nat.le_refl _) (by omega)).zin (Nat.le_succ_of_le (mul_len HY.out HT.out))).any
#print axioms lam_mul
end Go.Proofs.YtlaemhigmgmgjaaGreat
/- frac: Cmp: what it returns. No condition beyond sizes. (Printed by tools/frac3.py.) -/
namespace Go.Proofs.YtlaemhigmgmgjaaGreat
set_option linter.unusedVariables false
set_option linter.unusedSimpArgs false
open Go.RowKit

theorem far4h {w : World} {x y z t : Value} {n0 k : Nat} {o : Option Obj} (h : k ≠ n0) (g : w.heap[k]? = o) : ((((w.setCell ⟨n0, 0, none⟩ x).setCell ⟨n0, 1, none⟩ y).setCell ⟨n0, 2, none⟩ z).setCell ⟨n0, 3, none⟩ t).heap[k]? = o :=
  set_far (set_far (set_far (set_far g h) h) h) h
theorem set4h {w : World} {x y z t a b c d : Value} {n : Nat} {e : TypeId} {fr : Nat × Nat} (g : w.heap[n]? = some (.cells #[a, b, c, d] e fr)) : ((((w.setCell ⟨n, 0, none⟩ x).setCell ⟨n, 1, none⟩ y).setCell ⟨n, 2, none⟩ z).setCell ⟨n, 3, none⟩ t).heap[n]? = some (.cells #[x, y, z, t] e fr) :=
  set_same (set_same (set_same (set_same g)))
theorem far4cells {w : World} {n5 n6 : Nat} {o : Obj} (_ : w.heap[n5]? = some o) (g6 : w.heap[n6]? = some (.cells #[.bool false, .slice none 0 0, .bool false, .slice none 0 0] 88)) (hne : n6 ≠ n5) (x y z t : Value) :
    ((((w.setCell ⟨n5, 0, none⟩ x).setCell ⟨n5, 1, none⟩ y).setCell ⟨n5, 2, none⟩ z).setCell ⟨n5, 3, none⟩ t).cell? ⟨n6, 0, none⟩ = some (.bool false) ∧ ((((w.setCell ⟨n5, 0, none⟩ x).setCell ⟨n5, 1, none⟩ y).setCell ⟨n5, 2, none⟩ z).setCell ⟨n5, 3, none⟩ t).cell? ⟨n6, 1, none⟩ = some (.slice none 0 0) ∧ ((((w.setCell ⟨n5, 0, none⟩ x).setCell ⟨n5, 1, none⟩ y).setCell ⟨n5, 2, none⟩ z).setCell ⟨n5, 3, none⟩ t).cell? ⟨n6, 2, none⟩ = some (.bool false) ∧ ((((w.setCell ⟨n5, 0, none⟩ x).setCell ⟨n5, 1, none⟩ y).setCell ⟨n5, 2, none⟩ z).setCell ⟨n5, 3, none⟩ t).cell? ⟨n6, 3, none⟩ = some (.slice none 0 0) ∧ ((((w.setCell ⟨n5, 0, none⟩ x).setCell ⟨n5, 1, none⟩ y).setCell ⟨n5, 2, none⟩ z).setCell ⟨n5, 3, none⟩ t).frozen? ⟨n6, 0, none⟩ = false ∧ ((((w.setCell ⟨n5, 0, none⟩ x).setCell ⟨n5, 1, none⟩ y).setCell ⟨n5, 2, none⟩ z).setCell ⟨n5, 3, none⟩ t).frozen? ⟨n6, 1, none⟩ = false ∧ ((((w.setCell ⟨n5, 0, none⟩ x).setCell ⟨n5, 1, none⟩ y).setCell ⟨n5, 2, none⟩ z).setCell ⟨n5, 3, none⟩ t).frozen? ⟨n6, 2, none⟩ = false ∧ ((((w.setCell ⟨n5, 0, none⟩ x).setCell ⟨n5, 1, none⟩ y).setCell ⟨n5, 2, none⟩ z).setCell ⟨n5, 3, none⟩ t).frozen? ⟨n6, 3, none⟩ = false :=
  have h := far4h (x := x) (y := y) (z := z) (t := t) hne g6
  ⟨hcell h 0 rfl, hcell h 1 rfl, hcell h 2 rfl, hcell h 3 rfl, hfree h 0, hfree h 1, hfree h 2, hfree h 3⟩
theorem far4new {w : World} {n5 : Nat} {o : Obj} (g5 : w.heap[n5]? = some o) (x y z t : Value) :
    (((((w.alloc (.cells #[.bool false, .slice none 0 0, .bool false, .slice none 0 0] 88)).setCell ⟨n5, 0, none⟩ x).setCell ⟨n5, 1, none⟩ y).setCell ⟨n5, 2, none⟩ z).setCell ⟨n5, 3, none⟩ t).cell? ⟨w.heap.size, 0, none⟩ = some (.bool false) ∧ (((((w.alloc (.cells #[.bool false, .slice none 0 0, .bool false, .slice none 0 0] 88)).setCell ⟨n5, 0, none⟩ x).setCell ⟨n5, 1, none⟩ y).setCell ⟨n5, 2, none⟩ z).setCell ⟨n5, 3, none⟩ t).cell? ⟨w.heap.size, 1, none⟩ = some (.slice none 0 0) ∧ (((((w.alloc (.cells #[.bool false, .slice none 0 0, .bool false, .slice none 0 0] 88)).setCell ⟨n5, 0, none⟩ x).setCell ⟨n5, 1, none⟩ y).setCell ⟨n5, 2, none⟩ z).setCell ⟨n5, 3, none⟩ t).cell? ⟨w.heap.size, 2, none⟩ = some (.bool false) ∧ (((((w.alloc (.cells #[.bool false, .slice none 0 0, .bool false, .slice none 0 0] 88)).setCell ⟨n5, 0, none⟩ x).setCell ⟨n5, 1, none⟩ y).setCell ⟨n5, 2, none⟩ z).setCell ⟨n5, 3, none⟩ t).cell? ⟨w.heap.size, 3, none⟩ = some (.slice none 0 0) ∧ (((((w.alloc (.cells #[.bool false, .slice none 0 0, .bool false, .slice none 0 0] 88)).setCell ⟨n5, 0, none⟩ x).setCell ⟨n5, 1, none⟩ y).setCell ⟨n5, 2, none⟩ z).setCell ⟨n5, 3, none⟩ t).frozen? ⟨w.heap.size, 0, none⟩ = false ∧ (((((w.alloc (.cells #[.bool false, .slice none 0 0, .bool false, .slice none 0 0] 88)).setCell ⟨n5, 0, none⟩ x).setCell ⟨n5, 1, none⟩ y).setCell ⟨n5, 2, none⟩ z).setCell ⟨n5, 3, none⟩ t).frozen? ⟨w.heap.size, 1, none⟩ = false ∧ (((((w.alloc (.cells #[.bool false, .slice none 0 0, .bool false, .slice none 0 0] 88)).setCell ⟨n5, 0, none⟩ x).setCell ⟨n5, 1, none⟩ y).setCell ⟨n5, 2, none⟩ z).setCell ⟨n5, 3, none⟩ t).frozen? ⟨w.heap.size, 2, none⟩ = false ∧ (((((w.alloc (.cells #[.bool false, .slice none 0 0, .bool false, .slice none 0 0] 88)).setCell ⟨n5, 0, none⟩ x).setCell ⟨n5, 1, none⟩ y).setCell ⟨n5, 2, none⟩ z).setCell ⟨n5, 3, none⟩ t).frozen? ⟨w.heap.size, 3, none⟩ = false :=
  have hlt := (Array.getElem?_eq_some_iff.1 g5).1
  have h := far4h (x := x) (y := y) (z := z) (t := t) (show w.heap.size ≠ n5 by omega) (alloc_last (w := w) (o := (.cells #[.bool false, .slice none 0 0, .bool false, .slice none 0 0] 88)) rfl)
  ⟨hcell h 0 rfl, hcell h 1 rfl, hcell h 2 rfl, hcell h 3 rfl, hfree h 0, hfree h 1, hfree h 2, hfree h 3⟩
theorem QQ.fours {ok : Nat → Option Obj → Prop} {w : World} {v a b c d : Value} {x y : Int} {k n0 : Nat} (h : QQ ok w v x y k) (hn : ∀ o, ok n0 o → False) : QQ ok ((((w.setCell ⟨n0, 0, none⟩ a).setCell ⟨n0, 1, none⟩ b).setCell ⟨n0, 2, none⟩ c).setCell ⟨n0, 3, none⟩ d) v x y k := h.four hn
theorem QQ.any_of {ok : Nat → Option Obj → Prop} {w0 w : World} {v : Value} {x y : Int} {k : Nat} (h : QQ ok w0 v x y k) (g : QQ ok w0 v x y k → QQ ok w v x y k) : QQ (fun _ _ => True) w v x y k := (g h).any
theorem bd_alloc {w W : World} (h : Below w.heap.size w W) (o : Obj) : Below w.heap.size w (W.alloc o) := h.alloc h.size o
theorem bd_four {w W : World} {x y z t : Value} {n0 : Nat} (h : Below w.heap.size w W) (hn : w.heap.size ≤ n0) : Below w.heap.size w ((((W.setCell ⟨n0, 0, none⟩ x).setCell ⟨n0, 1, none⟩ y).setCell ⟨n0, 2, none⟩ z).setCell ⟨n0, 3, none⟩ t) := four_stores h hn
theorem QQ.alloc {ok : Nat → Option Obj → Prop} {w : World} {v : Value} {x y : Int} {k : Nat} (h : QQ ok w v x y k) (o : Obj) : QQ ok (w.alloc o) v x y k := h.below (below_alloc w o)

set_option maxRecDepth 100000 in
set_option maxHeartbeats 8000000 in
theorem fcmp_calls (u v : Value) (p q : Rat) (k : Nat) (w : World) (hu : QIn (fun _ _ => True) w u p k) (hv : QIn (fun _ _ => True) w v q k) (hk : k ≤ 100000000) (hk1 : 1 ≤ k) :
    Calls Tryz.prog 23 #[u, v] w fun e w' => Below w.heap.size w w' ∧ e = .returned (.int .i64 (cmpQ p q)) := by
  obtain ⟨t0, A0, m0, c0, s0, B0, j0, d0, rfl, HU⟩ := hu.form
  obtain ⟨t1, A1, m1, c1, s1, B1, j1, d1, rfl, HV⟩ := hv.form
  obtain ⟨W, hW, g0, g1', hB, hs⟩ := two_boxes w (.cells #[.bool t0, .slice A0 m0 c0, .bool s0, .slice B0 j0 d0] 44) (.cells #[.bool t1, .slice A1 m1 c1, .bool s1, .slice B1 j1 d1] 44)
  have a0 : W.drew.cell? ⟨w.heap.size, 0, none⟩ = some (.bool t0) := hcell (heap_drew g0) 0 rfl
  have a1 : W.drew.cell? ⟨w.heap.size, 1, none⟩ = some (.slice A0 m0 c0) := hcell (heap_drew g0) 1 rfl
  have a2 : W.drew.cell? ⟨w.heap.size, 2, none⟩ = some (.bool s0) := hcell (heap_drew g0) 2 rfl
  have a3 : W.drew.cell? ⟨w.heap.size, 3, none⟩ = some (.slice B0 j0 d0) := hcell (heap_drew g0) 3 rfl
  have b0 : W.drew.cell? ⟨w.heap.size + 1, 0, none⟩ = some (.bool t1) := hcell (heap_drew g1') 0 rfl
  have b1 : W.drew.cell? ⟨w.heap.size + 1, 1, none⟩ = some (.slice A1 m1 c1) := hcell (heap_drew g1') 1 rfl
  have b2 : W.drew.cell? ⟨w.heap.size + 1, 2, none⟩ = some (.bool s1) := hcell (heap_drew g1') 2 rfl
  have b3 : W.drew.cell? ⟨w.heap.size + 1, 3, none⟩ = some (.slice B1 j1 d1) := hcell (heap_drew g1') 3 rfl
  have HS := Lib.hid hs
  have HB := Lib.hid hB
  obtain ⟨x, y, hx, hxv⟩ := (HU.out.below hB).drew
  obtain ⟨z, t, hz, hzv⟩ := (HV.out.below hB).drew
  have HX := Lib.hid hx.held
  have HZ := Lib.hid hz.held
  have HXV := Lib.hid (And.intro hxv hzv)
  clear g0 g1' hs hB hu hv hx hz hxv hzv
  go_enter Tryz.func23, Tryz.ntmps23
  go_upto_region 1 with fail
  clear hW
  go_cut [5, 6] from 7 (fun s5 s6 wx => ∃ (n5 n6 : Nat) (t2 : Bool) (A2 : Option Addr) (m2 c2 : Nat) (s2 : Bool) (B2 : Option Addr) (j2 d2 : Nat) (t3 : Bool) (A3 : Option Addr) (m3 c3 : Nat) (s3 : Bool) (B3 : Option Addr) (j3 d3 : Nat) (N1 D1 N2 D2 : Int), s5 = .pointer (some ⟨n5, 0, none⟩) ∧ s6 = .pointer (some ⟨n6, 0, none⟩) ∧ Hid (wx.heap[n5]? = some (.cells #[.bool t2, .slice A2 m2 c2, .bool s2, .slice B2 j2 d2] 88 (0, 0))) ∧ Hid (wx.heap[n6]? = some (.cells #[.bool t3, .slice A3 m3 c3, .bool s3, .slice B3 j3 d3] 88 (0, 0))) ∧ Hid (QQ (fun _ _ => True) wx (.agg #[.bool t2, .slice A2 m2 c2, .bool s2, .slice B2 j2 d2]) N1 D1 k) ∧ Hid (QQ (fun _ _ => True) wx (.agg #[.bool t3, .slice A3 m3 c3, .bool s3, .slice B3 j3 d3]) N2 D2 k) ∧ Hid (0 < D1 ∧ 0 < D2 ∧ Rat.divInt N1 D1 = p ∧ Rat.divInt N2 D2 = q) ∧ Hid (Below W.drew.heap.size W.drew wx))
  case first J0 K0 hJ0 hK0 =>
    go_region_held3 (fun w' => Below W.drew.heap.size W.drew w' ∧ w'.cell? ⟨w.heap.size, 0, none⟩ = some (.bool t0) ∧ w'.cell? ⟨w.heap.size, 1, none⟩ = some (.slice A0 m0 c0) ∧ w'.cell? ⟨w.heap.size, 2, none⟩ = some (.bool s0) ∧ w'.cell? ⟨w.heap.size, 3, none⟩ = some (.slice B0 j0 d0) ∧ w'.cell? ⟨w.heap.size + 1, 0, none⟩ = some (.bool t1) ∧ w'.cell? ⟨w.heap.size + 1, 1, none⟩ = some (.slice A1 m1 c1) ∧ w'.cell? ⟨w.heap.size + 1, 2, none⟩ = some (.bool s1) ∧ w'.cell? ⟨w.heap.size + 1, 3, none⟩ = some (.slice B1 j1 d1))
      ((refine (fun hBn => ⟨hBn, cell_below hBn a0, cell_below hBn a1, cell_below hBn a2, cell_below hBn a3, cell_below hBn b0, cell_below hBn b1, cell_below hBn b2, cell_below hBn b3⟩) ?_; (repeat (first | with_reducible exact HBX.out | with_reducible exact Below.refl _ _ | with_reducible refine bd_alloc ?_ _ | with_reducible refine bd_four ?_ (by simp only [World.size_drew]; omega) | exact below_alloc W.drew _ | exact below_alloc2 W.drew _ _))))
      (first
        | (go_at_call_of 53 (Value.slice A0 m0 c0); refine (of_calls_at (fun b _ => True ∧ b < W.drew.heap.size) _ _ _ k _ (by exact HX.out.below (‹Below W.drew.heap.size W.drew _ ∧ _›).1) (by omega) hk1).mono ?_; rintro e w1 ⟨hb1, q1, N1, D1, rfl, z1, p1, v1⟩; obtain ⟨t2, A2, m2, c2, s2, B2, j2, d2, rfl, Z1⟩ := z1.form; have Z1 := Lib.hid Z1.out.held; have HBX : Hid (Below W.drew.heap.size W.drew w1) := Lib.hid (below_next (‹Below W.drew.heap.size W.drew _ ∧ _›).1 hb1); have hs1 := hb1.size; (try simp only [World.size_alloc, World.size_drew] at hs1); (try have x1 := heap_below hb1 (alloc_last (o := (.cells #[.bool false, .slice none 0 0, .bool false, .slice none 0 0] 88)) rfl)); (try have x2 := heap_below hb1 (alloc_elder (alloc_last (o := (.cells #[.bool false, .slice none 0 0, .bool false, .slice none 0 0] 88)) rfl))); (try simp only [World.size_alloc, World.size_drew] at x1); (try simp only [World.size_alloc, World.size_drew] at x2); have HA1 := Lib.hid hb1; have P1 := Lib.hid (And.intro p1 v1); clear hb1 z1 p1 v1)
        | (go_at_call_of 53 (Value.slice A1 m1 c1); refine (of_calls_at (fun b _ => True ∧ b < W.drew.heap.size) _ _ _ k _ (by exact HZ.out.below (‹Below W.drew.heap.size W.drew _ ∧ _›).1) (by omega) hk1).mono ?_; rintro e w2 ⟨hb2, q2, N2, D2, rfl, z2, p2, v2⟩; obtain ⟨t3, A3, m3, c3, s3, B3, j3, d3, rfl, Z2⟩ := z2.form; have Z2 := Lib.hid Z2.out.held; have HBX : Hid (Below W.drew.heap.size W.drew w2) := Lib.hid (below_next (‹Below W.drew.heap.size W.drew _ ∧ _›).1 hb2); have hs2 := hb2.size; (try simp only [World.size_alloc, World.size_drew] at hs2); have HB12 : Hid (Below w1.heap.size w1 w2) := Lib.hid (by first | exact hb2 | exact below_next (below_alloc _ _) hb2 | exact below_next (below_alloc2 _ _ _) hb2); have Z1 := Lib.hid (Z1.out.below HB12.out); (try have x1 := heap_below HB12.out x1); (try have x2 := heap_below HB12.out x2); (try have y1 := heap_below hb2 (alloc_last (o := (.cells #[.bool false, .slice none 0 0, .bool false, .slice none 0 0] 88)) rfl)); (try have y2 := heap_below hb2 (alloc_elder (alloc_last (o := (.cells #[.bool false, .slice none 0 0, .bool false, .slice none 0 0] 88)) rfl))); (try simp only [World.size_alloc, World.size_drew] at y1); (try simp only [World.size_alloc, World.size_drew] at y2); (try have x1c0 := hcell x1 0 rfl); (try have x1f0 := hfree x1 0); (try have x1c1 := hcell x1 1 rfl); (try have x1f1 := hfree x1 1); (try have x1c2 := hcell x1 2 rfl); (try have x1f2 := hfree x1 2); (try have x1c3 := hcell x1 3 rfl); (try have x1f3 := hfree x1 3); (try have x2c0 := hcell x2 0 rfl); (try have x2f0 := hfree x2 0); (try have x2c1 := hcell x2 1 rfl); (try have x2f1 := hfree x2 1); (try have x2c2 := hcell x2 2 rfl); (try have x2f2 := hfree x2 2); (try have x2c3 := hcell x2 3 rfl); (try have x2f3 := hfree x2 3); (try have y1c0 := hcell y1 0 rfl); (try have y1f0 := hfree y1 0); (try have y1c1 := hcell y1 1 rfl); (try have y1f1 := hfree y1 1); (try have y1c2 := hcell y1 2 rfl); (try have y1f2 := hfree y1 2); (try have y1c3 := hcell y1 3 rfl); (try have y1f3 := hfree y1 3); (try have y2c0 := hcell y2 0 rfl); (try have y2f0 := hfree y2 0); (try have y2c1 := hcell y2 1 rfl); (try have y2f1 := hfree y2 1); (try have y2c2 := hcell y2 2 rfl); (try have y2f2 := hfree y2 2); (try have y2c3 := hcell y2 3 rfl); (try have y2f3 := hfree y2 3); have P2 := Lib.hid (And.intro p2 v2); clear hb2 z2 p2 v2; (try have : W.heap.size ≠ w1.heap.size := by omega); (try have : w1.heap.size ≠ W.heap.size := by omega); (try have : W.heap.size ≠ w1.heap.size + 1 := by omega); (try have : w1.heap.size + 1 ≠ W.heap.size := by omega); (try have : W.heap.size + 1 ≠ w1.heap.size := by omega); (try have : w1.heap.size ≠ W.heap.size + 1 := by omega); (try have : W.heap.size + 1 ≠ w1.heap.size + 1 := by omega); (try have : w1.heap.size + 1 ≠ W.heap.size + 1 := by omega); (try have : W.heap.size ≠ w2.heap.size := by omega); (try have : w2.heap.size ≠ W.heap.size := by omega); (try have : W.heap.size ≠ w2.heap.size + 1 := by omega); (try have : w2.heap.size + 1 ≠ W.heap.size := by omega); (try have : W.heap.size + 1 ≠ w2.heap.size := by omega); (try have : w2.heap.size ≠ W.heap.size + 1 := by omega); (try have : W.heap.size + 1 ≠ w2.heap.size + 1 := by omega); (try have : w2.heap.size + 1 ≠ W.heap.size + 1 := by omega); (try have : w1.heap.size ≠ w2.heap.size := by omega); (try have : w2.heap.size ≠ w1.heap.size := by omega); (try have : w1.heap.size ≠ w2.heap.size + 1 := by omega); (try have : w2.heap.size + 1 ≠ w1.heap.size := by omega); (try have : w1.heap.size + 1 ≠ w2.heap.size := by omega); (try have : w2.heap.size ≠ w1.heap.size + 1 := by omega); (try have : w1.heap.size + 1 ≠ w2.heap.size + 1 := by omega); (try have : w2.heap.size + 1 ≠ w1.heap.size + 1 := by omega); (try have : W.heap.size < w2.heap.size := by omega); (try have : W.heap.size ≤ w2.heap.size := by omega); (try have : W.heap.size + 1 < w2.heap.size := by omega); (try have : W.heap.size + 1 ≤ w2.heap.size := by omega); (try have : w1.heap.size < w2.heap.size := by omega); (try have : w1.heap.size ≤ w2.heap.size := by omega); (try have : w1.heap.size + 1 < w2.heap.size := by omega); (try have : w1.heap.size + 1 ≤ w2.heap.size := by omega); (try (have hh := far4cells x1 x2 (by omega) (.bool t2) (.slice A2 m2 c2) (.bool s2) (.slice B2 j2 d2); obtain ⟨_, _, _, _, _, _, _, _⟩ := hh)); (try (have hh := far4cells x1 y1 (by omega) (.bool t2) (.slice A2 m2 c2) (.bool s2) (.slice B2 j2 d2); obtain ⟨_, _, _, _, _, _, _, _⟩ := hh)); (try (have hh := far4cells x1 y2 (by omega) (.bool t2) (.slice A2 m2 c2) (.bool s2) (.slice B2 j2 d2); obtain ⟨_, _, _, _, _, _, _, _⟩ := hh)); (try (have hh := far4cells x2 x1 (by omega) (.bool t2) (.slice A2 m2 c2) (.bool s2) (.slice B2 j2 d2); obtain ⟨_, _, _, _, _, _, _, _⟩ := hh)); (try (have hh := far4cells x2 y1 (by omega) (.bool t2) (.slice A2 m2 c2) (.bool s2) (.slice B2 j2 d2); obtain ⟨_, _, _, _, _, _, _, _⟩ := hh)); (try (have hh := far4cells x2 y2 (by omega) (.bool t2) (.slice A2 m2 c2) (.bool s2) (.slice B2 j2 d2); obtain ⟨_, _, _, _, _, _, _, _⟩ := hh)); (try (have hh := far4cells y1 x1 (by omega) (.bool t2) (.slice A2 m2 c2) (.bool s2) (.slice B2 j2 d2); obtain ⟨_, _, _, _, _, _, _, _⟩ := hh)); (try (have hh := far4cells y1 x2 (by omega) (.bool t2) (.slice A2 m2 c2) (.bool s2) (.slice B2 j2 d2); obtain ⟨_, _, _, _, _, _, _, _⟩ := hh)); (try (have hh := far4cells y1 y2 (by omega) (.bool t2) (.slice A2 m2 c2) (.bool s2) (.slice B2 j2 d2); obtain ⟨_, _, _, _, _, _, _, _⟩ := hh)); (try (have hh := far4cells y2 x1 (by omega) (.bool t2) (.slice A2 m2 c2) (.bool s2) (.slice B2 j2 d2); obtain ⟨_, _, _, _, _, _, _, _⟩ := hh)); (try (have hh := far4cells y2 x2 (by omega) (.bool t2) (.slice A2 m2 c2) (.bool s2) (.slice B2 j2 d2); obtain ⟨_, _, _, _, _, _, _, _⟩ := hh)); (try (have hh := far4cells y2 y1 (by omega) (.bool t2) (.slice A2 m2 c2) (.bool s2) (.slice B2 j2 d2); obtain ⟨_, _, _, _, _, _, _, _⟩ := hh)); (try (have hh := far4new x1 (.bool t2) (.slice A2 m2 c2) (.bool s2) (.slice B2 j2 d2); obtain ⟨_, _, _, _, _, _, _, _⟩ := hh)); (try (have hh := far4new x2 (.bool t2) (.slice A2 m2 c2) (.bool s2) (.slice B2 j2 d2); obtain ⟨_, _, _, _, _, _, _, _⟩ := hh)); (try (have hh := far4new y1 (.bool t2) (.slice A2 m2 c2) (.bool s2) (.slice B2 j2 d2); obtain ⟨_, _, _, _, _, _, _, _⟩ := hh)); (try (have hh := far4new y2 (.bool t2) (.slice A2 m2 c2) (.bool s2) (.slice B2 j2 d2); obtain ⟨_, _, _, _, _, _, _, _⟩ := hh)); (try have HX1 := Lib.hid x1); (try have HX2 := Lib.hid x2); (try have HY1 := Lib.hid y1); (try have HY2 := Lib.hid y2); (try clear x1); (try clear x2); (try clear y1); (try clear y2)))
    all_goals
      refine hK0 _ _ (Met.intro (hJ0 _ _ ?_))
      (repeat apply Exists.intro)
      refine ⟨⟨_, _, t2, A2, m2, c2, s2, B2, j2, d2, t3, A3, m3, c3, s3, B3, j3, d3, N1, D1, N2, D2, rfl, rfl, ?_, ?_, ?_, ?_, ⟨P1.out.1, P2.out.1, P1.out.2.trans HXV.out.1, P2.out.2.trans HXV.out.2⟩, ?_⟩, rfl⟩
      · (show _ = _; (repeat (first | with_reducible exact HX1.out | with_reducible exact HX2.out | with_reducible exact HY1.out | with_reducible exact HY2.out | (with_reducible refine alloc_last ?_; simp; done) | with_reducible refine set4h (a := .bool false) (b := .slice none 0 0) (c := .bool false) (d := .slice none 0 0) ?_ | with_reducible refine far4h (by omega) ?_ | with_reducible refine alloc_elder ?_)))
      · (show _ = _; (repeat (first | with_reducible exact HX1.out | with_reducible exact HX2.out | with_reducible exact HY1.out | with_reducible exact HY2.out | (with_reducible refine alloc_last ?_; simp; done) | with_reducible refine set4h (a := .bool false) (b := .slice none 0 0) (c := .bool false) (d := .slice none 0 0) ?_ | with_reducible refine far4h (by omega) ?_ | with_reducible refine alloc_elder ?_)))
      · exact QQ.any_of Z1.out (fun z0 => by (repeat (first | with_reducible exact z0 | with_reducible refine QQ.alloc ?_ _ | with_reducible refine QQ.fours ?_ (by intro o h; simp only [true_and, World.size_alloc, World.size_drew] at h; omega))))
      · exact QQ.any_of Z2.out (fun z0 => by (repeat (first | with_reducible exact z0 | with_reducible refine QQ.alloc ?_ _ | with_reducible refine QQ.fours ?_ (by intro o h; simp only [true_and, World.size_alloc, World.size_drew] at h; omega))))
      · (show Below _ _ _; (repeat (first | with_reducible exact HBX.out | with_reducible refine bd_alloc ?_ _ | with_reducible refine bd_four ?_ (by simp only [World.size_drew]; omega))))
  case rest =>
    obtain ⟨n5, n6, t2, A2, m2, c2, s2, B2, j2, d2, t3, A3, m3, c3, s3, B3, j3, d3, N1, D1, N2, D2, rfl, rfl, G5, G6, HQ1, HQ2, HP, HBW⟩ := hcut
    clear a0 a1 a2 a3 b0 b1 b2 b3 HX HZ
    have a0 : wc.drew.cell? ⟨n5, 0, none⟩ = some (.bool t2) := hcell (heap_drew G5.out) 0 rfl
    have a1 : wc.drew.cell? ⟨n5, 1, none⟩ = some (.slice A2 m2 c2) := hcell (heap_drew G5.out) 1 rfl
    have a2 : wc.drew.cell? ⟨n5, 2, none⟩ = some (.bool s2) := hcell (heap_drew G5.out) 2 rfl
    have a3 : wc.drew.cell? ⟨n5, 3, none⟩ = some (.slice B2 j2 d2) := hcell (heap_drew G5.out) 3 rfl
    have b0 : wc.drew.cell? ⟨n6, 0, none⟩ = some (.bool t3) := hcell (heap_drew G6.out) 0 rfl
    have b1 : wc.drew.cell? ⟨n6, 1, none⟩ = some (.slice A3 m3 c3) := hcell (heap_drew G6.out) 1 rfl
    have b2 : wc.drew.cell? ⟨n6, 2, none⟩ = some (.bool s3) := hcell (heap_drew G6.out) 2 rfl
    have b3 : wc.drew.cell? ⟨n6, 3, none⟩ = some (.slice B3 j3 d3) := hcell (heap_drew G6.out) 3 rfl
    have HX := Lib.hid (HQ1.out.below (below_drew (Below.refl _ _))).num.1
    have HY := Lib.hid (HQ1.out.below (below_drew (Below.refl _ _))).num.2
    have HZ := Lib.hid (HQ2.out.below (below_drew (Below.refl _ _))).num.1
    have HT := Lib.hid (HQ2.out.below (below_drew (Below.refl _ _))).num.2
    go_wp2_with fail
    go_region_held3 (fun w' => w'.cell? ⟨n5, 0, none⟩ = some (.bool t2) ∧ w'.cell? ⟨n5, 1, none⟩ = some (.slice A2 m2 c2) ∧ w'.cell? ⟨n5, 2, none⟩ = some (.bool s2) ∧ w'.cell? ⟨n5, 3, none⟩ = some (.slice B2 j2 d2) ∧ w'.cell? ⟨n6, 0, none⟩ = some (.bool t3) ∧ w'.cell? ⟨n6, 1, none⟩ = some (.slice A3 m3 c3) ∧ w'.cell? ⟨n6, 2, none⟩ = some (.bool s3) ∧ w'.cell? ⟨n6, 3, none⟩ = some (.slice B3 j3 d3))
      (first | with_reducible exact ⟨a0, a1, a2, a3, b0, b1, b2, b3⟩ | with_reducible exact ⟨k0, k1, k2, k3, k4, k5, k6, k7⟩ | go_keep)
      (first
        | (go_at_call 55; refine (zmul_calls _ _ _ _ k _ (by exact HX.out) (by exact HT.out) (by omega)).mono ?_; rintro e w1 ⟨hb1, q1, rfl, z1⟩; obtain ⟨t4, B4, m4, e4, rfl, Z1⟩ := z1.open; have k0 := cell_below hb1 a0; have k1 := cell_below hb1 a1; have k2 := cell_below hb1 a2; have k3 := cell_below hb1 a3; have k4 := cell_below hb1 b0; have k5 := cell_below hb1 b1; have k6 := cell_below hb1 b2; have k7 := cell_below hb1 b3; have HB1 := Lib.hid hb1; clear hb1 z1)
        | (go_at_call 55; refine (zmul_calls _ _ _ _ k _ (by exact HZ.out.below HB1.out) (by exact HY.out.below HB1.out) (by omega)).mono ?_; rintro e w2 ⟨hb2, q2, rfl, z2⟩; obtain ⟨t5, B5, m5, e5, rfl, Z2⟩ := z2.open; have k0 := cell_below hb2 k0; have k1 := cell_below hb2 k1; have k2 := cell_below hb2 k2; have k3 := cell_below hb2 k3; have k4 := cell_below hb2 k4; have k5 := cell_below hb2 k5; have k6 := cell_below hb2 k6; have k7 := cell_below hb2 k7; have HB2 := Lib.hid hb2; clear hb2 z2)
        | (go_at_call 54; refine (zcmp_calls _ _ _ _ (2 * k) _ (by exact ((Z1.out.below HB2.out).zin (mul_len HX.out HT.out)).any) (by exact (Z2.out.zin (mul_len HZ.out HY.out)).any) (by omega)).mono ?_; rintro e w3 ⟨hb3, rfl⟩; have k0 := cell_below hb3 k0; have k1 := cell_below hb3 k1; have k2 := cell_below hb3 k2; have k3 := cell_below hb3 k3; have k4 := cell_below hb3 k4; have k5 := cell_below hb3 k5; have k6 := cell_below hb3 k6; have k7 := cell_below hb3 k7; have HB3 := Lib.hid hb3; clear hb3))
    obtain ⟨rv, hrv⟩ : ∃ rv, rv = (N1 * D2 - N2 * D1).sign := ⟨_, rfl⟩
    rw [← hrv]
    rw [cmpQ_sign HP.out.1 HP.out.2.1, HP.out.2.2.1, HP.out.2.2.2] at hrv
    have HRV := Lib.hid hrv
    clear hrv
    go_wp2
    go_ret
    exact ⟨below_next (below_next (below_next (below_drew (below_next (below_drew HB.out) HBW.out)) HB1.out) HB2.out) HB3.out, by rw [← HRV.out]; rfl⟩
#print axioms fcmp_calls
end Go.Proofs.YtlaemhigmgmgjaaGreat
/- frac: Min: what they return. No condition beyond sizes. (Printed by tools/frac4.py.) -/
namespace Go.Proofs.YtlaemhigmgmgjaaGreat
set_option linter.unusedVariables false
set_option linter.unusedSimpArgs false
open Go.RowKit

def minQ (p q : Rat) : Rat := if p ≤ q then p else q
theorem cmpQ_le {p q : Rat} : cmpQ p q ≤ 0 ↔ p ≤ q := by
  unfold cmpQ
  by_cases h : p ≤ q
  · rw [if_pos h]
    by_cases h2 : q ≤ p
    · rw [if_pos h2]; simp [h]
    · rw [if_neg h2]; simp [h]
  · rw [if_neg h]; simp [h]
theorem cmpQ_zero {p q : Rat} : cmpQ p q = 0 ↔ p = q := by
  unfold cmpQ
  by_cases h : p ≤ q
  · rw [if_pos h]
    by_cases h2 : q ≤ p
    · rw [if_pos h2]; simp [Rat.le_antisymm h h2]
    · rw [if_neg h2]
      constructor
      · intro h3; cases h3
      · intro h3; exact absurd (h3 ▸ Rat.le_refl) h2
  · rw [if_neg h]
    constructor
    · intro h3; cases h3
    · intro h3; exact absurd (h3 ▸ Rat.le_refl) h

set_option maxRecDepth 100000 in
set_option maxHeartbeats 2000000 in
theorem fmin_calls (u v : Value) (p q : Rat) (k : Nat) (w : World) (hu : QIn (fun _ _ => True) w u p k) (hv : QIn (fun _ _ => True) w v q k) (hk : k ≤ 100000000) (hk1 : 1 ≤ k) :
    Calls Tryz.prog 67 #[u, v] w fun e w' => Below w.heap.size w w' ∧ ∃ r, e = .returned r ∧ QC w.heap.size w' r (minQ p q) := by
  obtain ⟨t0, A0, m0, c0, s0, B0, j0, d0, rfl, HU⟩ := hu.form
  obtain ⟨t1, A1, m1, c1, s1, B1, j1, d1, rfl, HV⟩ := hv.form
  obtain ⟨W, hW, g0, g1', g2', hB, hs⟩ := three_boxes w (.cells #[.bool t0, .slice A0 m0 c0, .bool s0, .slice B0 j0 d0] 44) (.cells #[.bool t1, .slice A1 m1 c1, .bool s1, .slice B1 j1 d1] 44) (.cells #[.bool false, .slice none 0 0, .bool false, .slice none 0 0] 44)
  have a0 : W.cell? ⟨w.heap.size, 0, none⟩ = some (.bool t0) := hcell g0 0 rfl
  have a1 : W.cell? ⟨w.heap.size, 1, none⟩ = some (.slice A0 m0 c0) := hcell g0 1 rfl
  have a2 : W.cell? ⟨w.heap.size, 2, none⟩ = some (.bool s0) := hcell g0 2 rfl
  have a3 : W.cell? ⟨w.heap.size, 3, none⟩ = some (.slice B0 j0 d0) := hcell g0 3 rfl
  have b0 : W.cell? ⟨w.heap.size + 1, 0, none⟩ = some (.bool t1) := hcell g1' 0 rfl
  have b1 : W.cell? ⟨w.heap.size + 1, 1, none⟩ = some (.slice A1 m1 c1) := hcell g1' 1 rfl
  have b2 : W.cell? ⟨w.heap.size + 1, 2, none⟩ = some (.bool s1) := hcell g1' 2 rfl
  have b3 : W.cell? ⟨w.heap.size + 1, 3, none⟩ = some (.slice B1 j1 d1) := hcell g1' 3 rfl
  have G2 : Hid (W.heap[w.heap.size + 1 + 1]? = some (.cells #[.bool false, .slice none 0 0, .bool false, .slice none 0 0] 44 (0, 0))) := Lib.hid g2'
  have G0 := Lib.hid g0
  have G1 := Lib.hid g1'
  have HS := Lib.hid hs
  have HB := Lib.hid hB
  clear g0 g1' g2' hs hB hu hv
  go_enter Tryz.func67, Tryz.ntmps67
  go_wp2_with fail
  clear hW
  refine (fcmp_calls _ _ p q k _ (HU.out.below HB.out) (HV.out.below HB.out) hk hk1).mono ?_
  rintro e w1 ⟨hb1, rfl⟩
  have HB1 := Lib.hid hb1
  have hg0 := heap_below hb1 G0.out
  have hg1 := heap_below hb1 G1.out
  have a0 : w1.cell? ⟨w.heap.size, 0, none⟩ = some (.bool t0) := hcell hg0 0 rfl
  have a1 : w1.cell? ⟨w.heap.size, 1, none⟩ = some (.slice A0 m0 c0) := hcell hg0 1 rfl
  have a2 : w1.cell? ⟨w.heap.size, 2, none⟩ = some (.bool s0) := hcell hg0 2 rfl
  have a3 : w1.cell? ⟨w.heap.size, 3, none⟩ = some (.slice B0 j0 d0) := hcell hg0 3 rfl
  have b0 : w1.cell? ⟨w.heap.size + 1, 0, none⟩ = some (.bool t1) := hcell hg1 0 rfl
  have b1 : w1.cell? ⟨w.heap.size + 1, 1, none⟩ = some (.slice A1 m1 c1) := hcell hg1 1 rfl
  have b2 : w1.cell? ⟨w.heap.size + 1, 2, none⟩ = some (.bool s1) := hcell hg1 2 rfl
  have b3 : w1.cell? ⟨w.heap.size + 1, 3, none⟩ = some (.slice B1 j1 d1) := hcell hg1 3 rfl
  clear hb1 hg0 hg1
  obtain ⟨d, hd⟩ : ∃ d, d = cmpQ p q := ⟨_, rfl⟩
  rw [← hd]
  by_cases h0 : d ≤ 0
  · have HE : Hid (minQ p q = p) := Lib.hid (by unfold minQ; rw [if_pos (cmpQ_le.1 (hd ▸ h0))])
    clear hd
    go_wp2_with fail
    refine (canon_calls _ p k _ (HU.out.below (below_next HB.out HB1.out)) (by omega) hk1).mono ?_
    rintro e w2 ⟨hb2, r, rfl, hr⟩
    obtain ⟨t4, C4, i4, j4, s4, B4, m4, o4, rfl, Z4⟩ := hr.open
    have HB2 := Lib.hid (below_next HB1.out hb2)
    have hg := heap_below (below_next HB1.out hb2) G2.out
    have HS1 := Lib.hid HB1.out.size
    have p0 : w2.cell? ⟨w.heap.size + 1 + 1, 0, none⟩ = some (.bool false) := hcell hg 0 rfl
    have p1 : w2.cell? ⟨w.heap.size + 1 + 1, 1, none⟩ = some (.slice none 0 0) := hcell hg 1 rfl
    have p2 : w2.cell? ⟨w.heap.size + 1 + 1, 2, none⟩ = some (.bool false) := hcell hg 2 rfl
    have p3 : w2.cell? ⟨w.heap.size + 1 + 1, 3, none⟩ = some (.slice none 0 0) := hcell hg 3 rfl
    have f0 := hfree hg 0
    have f1 := hfree hg 1
    have f2 := hfree hg 2
    have f3 := hfree hg 3
    clear hr hb2 hg
    go_wp2
    refine bodyPost_ret (v := .agg #[.bool t4, .slice C4 i4 j4, .bool s4, .slice B4 m4 o4]) (by simp [results, Tryz.results67, go_sem, p0, p1, p2, p3]) rfl ?_
    have h1 := HS.out
    have h2 := HS1.out
    refine ⟨four_stores (below_next HB.out HB2.out) (by omega), _, rfl, ?_⟩
    rw [HE.out]
    exact Z4.out.stored (by omega) (by omega)
  · have HE : Hid (minQ p q = q) := Lib.hid (by unfold minQ; rw [if_neg (fun h => h0 (hd ▸ cmpQ_le.2 h))])
    have h0' : 0 < d := by omega
    clear hd h0
    go_wp2_with fail
    refine (canon_calls _ q k _ (HV.out.below (below_next HB.out HB1.out)) (by omega) hk1).mono ?_
    rintro e w2 ⟨hb2, r, rfl, hr⟩
    obtain ⟨t4, C4, i4, j4, s4, B4, m4, o4, rfl, Z4⟩ := hr.open
    have HB2 := Lib.hid (below_next HB1.out hb2)
    have hg := heap_below (below_next HB1.out hb2) G2.out
    have HS1 := Lib.hid HB1.out.size
    have p0 : w2.cell? ⟨w.heap.size + 1 + 1, 0, none⟩ = some (.bool false) := hcell hg 0 rfl
    have p1 : w2.cell? ⟨w.heap.size + 1 + 1, 1, none⟩ = some (.slice none 0 0) := hcell hg 1 rfl
    have p2 : w2.cell? ⟨w.heap.size + 1 + 1, 2, none⟩ = some (.bool false) := hcell hg 2 rfl
    have p3 : w2.cell? ⟨w.heap.size + 1 + 1, 3, none⟩ = some (.slice none 0 0) := hcell hg 3 rfl
    have f0 := hfree hg 0
    have f1 := hfree hg 1
    have f2 := hfree hg 2
    have f3 := hfree hg 3
    clear hr hb2 hg
    go_wp2
    refine bodyPost_ret (v := .agg #[.bool t4, .slice C4 i4 j4, .bool s4, .slice B4 m4 o4]) (by simp [results, Tryz.results67, go_sem, p0, p1, p2, p3]) rfl ?_
    have h1 := HS.out
    have h2 := HS1.out
    refine ⟨four_stores (below_next HB.out HB2.out) (by omega), _, rfl, ?_⟩
    rw [HE.out]
    exact Z4.out.stored (by omega) (by omega)

#print axioms fmin_calls
end Go.Proofs.YtlaemhigmgmgjaaGreat
/- frac: does: what it returns. No condition beyond sizes. (Printed by tools/does.py.) -/
namespace Go.Proofs.YtlaemhigmgmgjaaGreat
set_option linter.unusedVariables false
set_option linter.unusedSimpArgs false
open Go.RowKit

theorem map_put {P : Program} {w : World} {r clock : Nat} {mty kt et : TypeId} {es : Array MapEntry} {s : ByteArray} {val : Value} (hm : P.underlying mty = some (.map kt et)) (hk : P.underlying kt = some .string) (hb : w.heap[r]? = some (.map es clock)) (hf : Instr.findNow .string (.string s) es.toList 0 = some none) :
    ∃ w', (Instr.mapUpdate mty (.map (some r)) (.string s) val).run P w = .ok () w' ∧ w'.heap[r]? = some (.map (es.push ⟨.string s, val, clock⟩) (clock + 1)) ∧ w.grownBy w' (some r) := by
  have hc : (Instr.checkKey false 10000 kt (.string s)).run P w = .ok () w := MapKept.run_checkKey (k := .string s) hk (by simp [MapKept.IsKey]) false 9999
  refine ⟨{ w with heap := w.heap.setIfInBounds r (.map (es.push ⟨.string s, val, clock⟩) (clock + 1)) }, ?_, ?_, ?_⟩
  · simp [Instr.mapUpdate, run_underlying hm, MapKept.run_getObj_map hb, hc, MapKept.run_findKey hk hf, MapKept.run_setObj_map _ hb, Result.andThen]
  · have hr : r < w.heap.size := by
      rcases Nat.lt_or_ge r w.heap.size with h | h
      · exact h
      · rw [Array.getElem?_eq_none h] at hb; cases hb
    simp [Array.getElem?_setIfInBounds, hr]
  · refine ⟨rfl, rfl, rfl, by simp, fun k _ hne => ?_⟩
    have hne' : ¬ r = k := fun e => hne (by rw [e])
    simp [Array.getElem?_setIfInBounds, hne']
theorem map_get {P : Program} {w : World} {r clock i : Nat} {mty kt et : TypeId} {es : Array MapEntry} {s : ByteArray} {val : Value} (hm : P.underlying mty = some (.map kt et)) (hk : P.underlying kt = some .string) (hb : w.heap[r]? = some (.map es clock)) (hf : Instr.findNow .string (.string s) es.toList 0 = some (some (i, val))) :
    (Instr.lookup mty (.map (some r)) (.string s) false).run P w = .ok val w := by
  have hc : (Instr.checkKey es.isEmpty 10000 kt (.string s)).run P w = .ok () w := MapKept.run_checkKey (k := .string s) hk (by simp [MapKept.IsKey]) _ 9999
  simp [Instr.lookup, run_underlying hm, MapKept.run_getObj_map hb, hc, MapKept.run_findKey hk hf, Result.andThen]
theorem field_kind (n : Nat) (w : World) : (Instr.field 120 (.agg #[.func (.func n) #[] #[]]) 0).run Tryz.prog w = .ok (.func (.func n) #[] #[]) w := by
  simp [Instr.field, run_underlying Tryz.underlying120, go_sem, asAgg, Result.andThen]

set_option maxRecDepth 100000 in
set_option maxHeartbeats 4000000 in
theorem does_add (u v : Value) (x y z t : Int) (k : Nat) (w : World) (hu : QQ (fun _ _ => True) w u x y k) (hv : QQ (fun _ _ => True) w v z t k) (hk : k ≤ 100000000) (hk1 : 1 ≤ k) :
    Calls Tryz.prog 58 #[.string ⟨#[97, 100, 100]⟩, u, v] w fun e w' => Below w.heap.size w w' ∧ ∃ r, e = .returned r ∧ QC w.heap.size w' r (fv x y + fv z t) := by
  obtain ⟨g1, A1, c1, l1, g2, A2, c2, l2, rfl, r1, r2, hx, hy, le1, le2⟩ := hu
  obtain ⟨g3, A3, c3, l3, g4, A4, c4, l4, rfl, r3, r4, hz, ht, le3, le4⟩ := hv
  obtain ⟨W, hW, g0, g1', g2', hB, hs⟩ := three_boxes w (.cells #[.bool g1, .slice A1 l1.length c1, .bool g2, .slice A2 l2.length c2] 44) (.cells #[.bool g3, .slice A3 l3.length c3, .bool g4, .slice A4 l4.length c4] 44) (.cells #[.bool false, .slice none 0 0, .bool false, .slice none 0 0] 44)
  have hmm := @run_makeMap Tryz.prog
  obtain ⟨Wm, hWm, gm, hBm, hsm⟩ := one_box W (.map #[] 0)
  obtain ⟨V0, e0, m0, u0⟩ := map_put (s := ⟨#[97, 100, 100]⟩) (val := .agg #[.func (.func 78) #[] #[]]) Tryz.underlying121 Tryz.underlying9 gm rfl
  obtain ⟨V1, e1, m1, u1⟩ := map_put (s := ⟨#[115, 117, 98]⟩) (val := .agg #[.func (.func 80) #[] #[]]) Tryz.underlying121 Tryz.underlying9 m0 rfl
  obtain ⟨V2, e2, m2, u2⟩ := map_put (s := ⟨#[109, 117, 108]⟩) (val := .agg #[.func (.func 81) #[] #[]]) Tryz.underlying121 Tryz.underlying9 m1 rfl
  obtain ⟨V3, e3, m3, u3⟩ := map_put (s := ⟨#[100, 105, 118]⟩) (val := .agg #[.func (.func 82) #[] #[]]) Tryz.underlying121 Tryz.underlying9 m2 rfl
  have hB4 : Below W.heap.size W V3 := below_grown (below_grown (below_grown (below_grown hBm u0 (fun k h => by cases h; exact Nat.le_refl _)) u1 (fun k h => by cases h; exact Nat.le_refl _)) u2 (fun k h => by cases h; exact Nat.le_refl _)) u3 (fun k h => by cases h; exact Nat.le_refl _)
  have HGET : Hid (∀ w' : World, w'.heap[W.heap.size]? = some (.map #[⟨.string ⟨#[97, 100, 100]⟩, .agg #[.func (.func 78) #[] #[]], 0⟩, ⟨.string ⟨#[115, 117, 98]⟩, .agg #[.func (.func 80) #[] #[]], 1⟩, ⟨.string ⟨#[109, 117, 108]⟩, .agg #[.func (.func 81) #[] #[]], 2⟩, ⟨.string ⟨#[100, 105, 118]⟩, .agg #[.func (.func 82) #[] #[]], 3⟩] 4) → (Instr.lookup 121 (.map (some W.heap.size)) (.string ⟨#[97, 100, 100]⟩) false).run Tryz.prog w' = .ok (.agg #[.func (.func 78) #[] #[]]) w') := Lib.hid fun w' hw => map_get Tryz.underlying121 Tryz.underlying9 hw rfl
  have HM : Hid (V3.drew.heap[W.heap.size]? = some (.map #[⟨.string ⟨#[97, 100, 100]⟩, .agg #[.func (.func 78) #[] #[]], 0⟩, ⟨.string ⟨#[115, 117, 98]⟩, .agg #[.func (.func 80) #[] #[]], 1⟩, ⟨.string ⟨#[109, 117, 108]⟩, .agg #[.func (.func 81) #[] #[]], 2⟩, ⟨.string ⟨#[100, 105, 118]⟩, .agg #[.func (.func 82) #[] #[]], 3⟩] 4)) := Lib.hid m3
  have l0 := HGET.out _ HM.out
  have a0 : V3.drew.cell? ⟨w.heap.size, 0, none⟩ = some (.bool g1) := hcell (heap_below (below_drew hB4) g0) 0 rfl
  have a1 : V3.drew.cell? ⟨w.heap.size, 1, none⟩ = some (.slice A1 l1.length c1) := hcell (heap_below (below_drew hB4) g0) 1 rfl
  have a2 : V3.drew.cell? ⟨w.heap.size, 2, none⟩ = some (.bool g2) := hcell (heap_below (below_drew hB4) g0) 2 rfl
  have a3 : V3.drew.cell? ⟨w.heap.size, 3, none⟩ = some (.slice A2 l2.length c2) := hcell (heap_below (below_drew hB4) g0) 3 rfl
  have b0 : V3.drew.cell? ⟨w.heap.size + 1, 0, none⟩ = some (.bool g3) := hcell (heap_below (below_drew hB4) g1') 0 rfl
  have b1 : V3.drew.cell? ⟨w.heap.size + 1, 1, none⟩ = some (.slice A3 l3.length c3) := hcell (heap_below (below_drew hB4) g1') 1 rfl
  have b2 : V3.drew.cell? ⟨w.heap.size + 1, 2, none⟩ = some (.bool g4) := hcell (heap_below (below_drew hB4) g1') 2 rfl
  have b3 : V3.drew.cell? ⟨w.heap.size + 1, 3, none⟩ = some (.slice A4 l4.length c4) := hcell (heap_below (below_drew hB4) g1') 3 rfl
  have HU : Hid (QQ (fun _ _ => True) V3.drew (.agg #[.bool g1, .slice A1 l1.length c1, .bool g2, .slice A2 l2.length c2]) x y k) := Lib.hid ⟨_, _, _, _, _, _, _, _, rfl, (r1.below (below_next hB hB4)).drew, (r2.below (below_next hB hB4)).drew, hx, hy, le1, le2⟩
  have HV : Hid (QQ (fun _ _ => True) V3.drew (.agg #[.bool g3, .slice A3 l3.length c3, .bool g4, .slice A4 l4.length c4]) z t k) := Lib.hid ⟨_, _, _, _, _, _, _, _, rfl, (r3.below (below_next hB hB4)).drew, (r4.below (below_next hB hB4)).drew, hz, ht, le3, le4⟩
  have G2 : Hid (V3.drew.heap[w.heap.size + 1 + 1]? = some (.cells #[.bool false, .slice none 0 0, .bool false, .slice none 0 0] 44 (0, 0))) := Lib.hid (heap_below (below_drew hB4) g2')
  have n3 : W.heap.size ≠ w.heap.size + 1 + 1 := by omega
  have HS := Lib.hid hs
  have HBV := Lib.hid (below_next hB hB4)
  have HSV := Lib.hid hB4.size
  clear g0 g1' g2' hs hB r1 r2 r3 r4 hx hy hz ht gm hBm hsm m0 m1 m2 m3 u0 u1 u2 u3 hB4
  have n1 : ¬ (w.heap.size + 1 + 1 = w.heap.size) := by omega
  have n2 : ¬ (w.heap.size + 1 + 1 = w.heap.size + 1) := by omega
  have hfd := field_kind 78
  go_enter Tryz.func58, Tryz.ntmps58
  go_wp2_with fail
  clear hW hmm hWm e0 e1 e2 e3
  go_region_held3 (fun w' => w'.cell? ⟨w.heap.size, 0, none⟩ = some (.bool g1) ∧ w'.cell? ⟨w.heap.size, 1, none⟩ = some (.slice A1 l1.length c1) ∧ w'.cell? ⟨w.heap.size, 2, none⟩ = some (.bool g2) ∧ w'.cell? ⟨w.heap.size, 3, none⟩ = some (.slice A2 l2.length c2) ∧ w'.cell? ⟨w.heap.size + 1, 0, none⟩ = some (.bool g3) ∧ w'.cell? ⟨w.heap.size + 1, 1, none⟩ = some (.slice A3 l3.length c3) ∧ w'.cell? ⟨w.heap.size + 1, 2, none⟩ = some (.bool g4) ∧ w'.cell? ⟨w.heap.size + 1, 3, none⟩ = some (.slice A4 l4.length c4) ∧ (Instr.lookup 121 (.map (some W.heap.size)) (.string ⟨#[97, 100, 100]⟩) false).run Tryz.prog w' = .ok (.agg #[.func (.func 78) #[] #[]]) w') (first | with_reducible exact ⟨k0, k1, k2, k3, k4, k5, k6, k7, k8⟩ | with_reducible exact ⟨a0, a1, a2, a3, b0, b1, b2, b3, l0⟩ | exact ⟨(far4 n1).trans k0, (far4 n1).trans k1, (far4 n1).trans k2, (far4 n1).trans k3, (far4 n2).trans k4, (far4 n2).trans k5, (far4 n2).trans k6, (far4 n2).trans k7, HGET.out _ (set_far (set_far (set_far (set_far hm4 n3) n3) n3) n3)⟩)
    (first
      | (go_at_call 53; refine (of_calls _ _ _ k _ (by exact HU.out) (by omega) hk1).mono ?_; rintro e w1 ⟨hb1, q1, N1, D1, rfl, z1, p1, v1⟩; have k0 := cell_below hb1 a0; have k1 := cell_below hb1 a1; have k2 := cell_below hb1 a2; have k3 := cell_below hb1 a3; have k4 := cell_below hb1 b0; have k5 := cell_below hb1 b1; have k6 := cell_below hb1 b2; have k7 := cell_below hb1 b3; have hm1 := heap_below hb1 HM.out; have k8 := HGET.out _ hm1; have HB1 := Lib.hid hb1; have Z1 := Lib.hid z1; have P1 := Lib.hid (And.intro p1 v1); clear hb1 z1 p1 v1)
      | (go_at_call 53; refine (of_calls _ _ _ k _ (by exact HV.out.below HB1.out) (by omega) hk1).mono ?_; rintro e w2 ⟨hb2, q2, N2, D2, rfl, z2, p2, v2⟩; have k0 := cell_below hb2 k0; have k1 := cell_below hb2 k1; have k2 := cell_below hb2 k2; have k3 := cell_below hb2 k3; have k4 := cell_below hb2 k4; have k5 := cell_below hb2 k5; have k6 := cell_below hb2 k6; have k7 := cell_below hb2 k7; have hm2 := heap_below hb2 hm1; have k8 := HGET.out _ hm2; have HB2 := Lib.hid (below_next HB1.out hb2); have Z1' := Lib.hid (Z1.out.below hb2); have Z2 := Lib.hid z2; have P2 := Lib.hid (And.intro p2 v2); clear hb2 z2 p2 v2)
      | (go_at_call 78; refine (lam_add _ _ _ _ _ _ k _ (by exact Z1'.out) (by exact Z2.out) (by omega)).mono ?_; rintro e w3 ⟨hb3, q3, rfl, z3⟩; have k0 := cell_below hb3 k0; have k1 := cell_below hb3 k1; have k2 := cell_below hb3 k2; have k3 := cell_below hb3 k3; have k4 := cell_below hb3 k4; have k5 := cell_below hb3 k5; have k6 := cell_below hb3 k6; have k7 := cell_below hb3 k7; have hm3 := heap_below hb3 hm2; have k8 := HGET.out _ hm3; have HB3 := Lib.hid (below_next HB2.out hb3); have Z3 := Lib.hid z3; clear hb3 z3)
      | (go_at_call 74; refine (least_calls _ _ _ (2 * k + 1) _ (by exact Z3.out) (by omega) (by omega) (by exact Int.mul_pos P1.out.1 P2.out.1)).mono ?_; rintro e w4 ⟨hb4, q4, rfl, z4⟩; obtain ⟨t4, C4, i4, j4, s4, B4, m4, o4, rfl, Z4⟩ := z4.open; have k0 := cell_below hb4 k0; have k1 := cell_below hb4 k1; have k2 := cell_below hb4 k2; have k3 := cell_below hb4 k3; have k4 := cell_below hb4 k4; have k5 := cell_below hb4 k5; have k6 := cell_below hb4 k6; have k7 := cell_below hb4 k7; have hm4 := heap_below hb4 hm3; have k8 := HGET.out _ hm4; have HB4 := Lib.hid (below_next HB3.out hb4); have HSZ := Lib.hid (Nat.le_trans HB3.out.size (Nat.le_refl _)); have hg3 := heap_below (below_next HB3.out hb4) G2.out; have p0 : w4.cell? ⟨w.heap.size + 1 + 1, 0, none⟩ = some (.bool false) := hcell hg3 0 rfl; have p1 : w4.cell? ⟨w.heap.size + 1 + 1, 1, none⟩ = some (.slice none 0 0) := hcell hg3 1 rfl; have p2 : w4.cell? ⟨w.heap.size + 1 + 1, 2, none⟩ = some (.bool false) := hcell hg3 2 rfl; have p3 : w4.cell? ⟨w.heap.size + 1 + 1, 3, none⟩ = some (.slice none 0 0) := hcell hg3 3 rfl; have f0 := hfree hg3 0; have f1 := hfree hg3 1; have f2 := hfree hg3 2; have f3 := hfree hg3 3; clear hg3 hb4 z4))
  all_goals
    go_wp2
    refine bodyPost_ret (v := .agg #[.bool t4, .slice C4 i4 j4, .bool s4, .slice B4 m4 o4]) (by simp [results, Tryz.results58, go_sem, p0, p1, p2, p3]) rfl ?_
    have h1 := HS.out
    have h2 := HSV.out
    have h3 : V3.heap.size ≤ w3.heap.size := HSZ.out
    have hz := Z4.out
    rw [← Rat.divInt_add_divInt _ _ (Int.ne_of_gt P1.out.1) (Int.ne_of_gt P2.out.1), P1.out.2, P2.out.2] at hz
    exact ⟨four_stores (below_next (below_drew HBV.out) HB4.out) (by omega), _, rfl, hz.stored (by omega) (by omega)⟩

set_option maxRecDepth 100000 in
set_option maxHeartbeats 4000000 in
theorem does_sub (u v : Value) (x y z t : Int) (k : Nat) (w : World) (hu : QQ (fun _ _ => True) w u x y k) (hv : QQ (fun _ _ => True) w v z t k) (hk : k ≤ 100000000) (hk1 : 1 ≤ k) :
    Calls Tryz.prog 58 #[.string ⟨#[115, 117, 98]⟩, u, v] w fun e w' => Below w.heap.size w w' ∧ ∃ r, e = .returned r ∧ QC w.heap.size w' r (fv x y - fv z t) := by
  obtain ⟨g1, A1, c1, l1, g2, A2, c2, l2, rfl, r1, r2, hx, hy, le1, le2⟩ := hu
  obtain ⟨g3, A3, c3, l3, g4, A4, c4, l4, rfl, r3, r4, hz, ht, le3, le4⟩ := hv
  obtain ⟨W, hW, g0, g1', g2', hB, hs⟩ := three_boxes w (.cells #[.bool g1, .slice A1 l1.length c1, .bool g2, .slice A2 l2.length c2] 44) (.cells #[.bool g3, .slice A3 l3.length c3, .bool g4, .slice A4 l4.length c4] 44) (.cells #[.bool false, .slice none 0 0, .bool false, .slice none 0 0] 44)
  have hmm := @run_makeMap Tryz.prog
  obtain ⟨Wm, hWm, gm, hBm, hsm⟩ := one_box W (.map #[] 0)
  obtain ⟨V0, e0, m0, u0⟩ := map_put (s := ⟨#[97, 100, 100]⟩) (val := .agg #[.func (.func 78) #[] #[]]) Tryz.underlying121 Tryz.underlying9 gm rfl
  obtain ⟨V1, e1, m1, u1⟩ := map_put (s := ⟨#[115, 117, 98]⟩) (val := .agg #[.func (.func 80) #[] #[]]) Tryz.underlying121 Tryz.underlying9 m0 rfl
  obtain ⟨V2, e2, m2, u2⟩ := map_put (s := ⟨#[109, 117, 108]⟩) (val := .agg #[.func (.func 81) #[] #[]]) Tryz.underlying121 Tryz.underlying9 m1 rfl
  obtain ⟨V3, e3, m3, u3⟩ := map_put (s := ⟨#[100, 105, 118]⟩) (val := .agg #[.func (.func 82) #[] #[]]) Tryz.underlying121 Tryz.underlying9 m2 rfl
  have hB4 : Below W.heap.size W V3 := below_grown (below_grown (below_grown (below_grown hBm u0 (fun k h => by cases h; exact Nat.le_refl _)) u1 (fun k h => by cases h; exact Nat.le_refl _)) u2 (fun k h => by cases h; exact Nat.le_refl _)) u3 (fun k h => by cases h; exact Nat.le_refl _)
  have HGET : Hid (∀ w' : World, w'.heap[W.heap.size]? = some (.map #[⟨.string ⟨#[97, 100, 100]⟩, .agg #[.func (.func 78) #[] #[]], 0⟩, ⟨.string ⟨#[115, 117, 98]⟩, .agg #[.func (.func 80) #[] #[]], 1⟩, ⟨.string ⟨#[109, 117, 108]⟩, .agg #[.func (.func 81) #[] #[]], 2⟩, ⟨.string ⟨#[100, 105, 118]⟩, .agg #[.func (.func 82) #[] #[]], 3⟩] 4) → (Instr.lookup 121 (.map (some W.heap.size)) (.string ⟨#[115, 117, 98]⟩) false).run Tryz.prog w' = .ok (.agg #[.func (.func 80) #[] #[]]) w') := Lib.hid fun w' hw => map_get Tryz.underlying121 Tryz.underlying9 hw rfl
  have HM : Hid (V3.drew.heap[W.heap.size]? = some (.map #[⟨.string ⟨#[97, 100, 100]⟩, .agg #[.func (.func 78) #[] #[]], 0⟩, ⟨.string ⟨#[115, 117, 98]⟩, .agg #[.func (.func 80) #[] #[]], 1⟩, ⟨.string ⟨#[109, 117, 108]⟩, .agg #[.func (.func 81) #[] #[]], 2⟩, ⟨.string ⟨#[100, 105, 118]⟩, .agg #[.func (.func 82) #[] #[]], 3⟩] 4)) := Lib.hid m3
  have l0 := HGET.out _ HM.out
  have a0 : V3.drew.cell? ⟨w.heap.size, 0, none⟩ = some (.bool g1) := hcell (heap_below (below_drew hB4) g0) 0 rfl
  have a1 : V3.drew.cell? ⟨w.heap.size, 1, none⟩ = some (.slice A1 l1.length c1) := hcell (heap_below (below_drew hB4) g0) 1 rfl
  have a2 : V3.drew.cell? ⟨w.heap.size, 2, none⟩ = some (.bool g2) := hcell (heap_below (below_drew hB4) g0) 2 rfl
  have a3 : V3.drew.cell? ⟨w.heap.size, 3, none⟩ = some (.slice A2 l2.length c2) := hcell (heap_below (below_drew hB4) g0) 3 rfl
  have b0 : V3.drew.cell? ⟨w.heap.size + 1, 0, none⟩ = some (.bool g3) := hcell (heap_below (below_drew hB4) g1') 0 rfl
  have b1 : V3.drew.cell? ⟨w.heap.size + 1, 1, none⟩ = some (.slice A3 l3.length c3) := hcell (heap_below (below_drew hB4) g1') 1 rfl
  have b2 : V3.drew.cell? ⟨w.heap.size + 1, 2, none⟩ = some (.bool g4) := hcell (heap_below (below_drew hB4) g1') 2 rfl
  have b3 : V3.drew.cell? ⟨w.heap.size + 1, 3, none⟩ = some (.slice A4 l4.length c4) := hcell (heap_below (below_drew hB4) g1') 3 rfl
  have HU : Hid (QQ (fun _ _ => True) V3.drew (.agg #[.bool g1, .slice A1 l1.length c1, .bool g2, .slice A2 l2.length c2]) x y k) := Lib.hid ⟨_, _, _, _, _, _, _, _, rfl, (r1.below (below_next hB hB4)).drew, (r2.below (below_next hB hB4)).drew, hx, hy, le1, le2⟩
  have HV : Hid (QQ (fun _ _ => True) V3.drew (.agg #[.bool g3, .slice A3 l3.length c3, .bool g4, .slice A4 l4.length c4]) z t k) := Lib.hid ⟨_, _, _, _, _, _, _, _, rfl, (r3.below (below_next hB hB4)).drew, (r4.below (below_next hB hB4)).drew, hz, ht, le3, le4⟩
  have G2 : Hid (V3.drew.heap[w.heap.size + 1 + 1]? = some (.cells #[.bool false, .slice none 0 0, .bool false, .slice none 0 0] 44 (0, 0))) := Lib.hid (heap_below (below_drew hB4) g2')
  have n3 : W.heap.size ≠ w.heap.size + 1 + 1 := by omega
  have HS := Lib.hid hs
  have HBV := Lib.hid (below_next hB hB4)
  have HSV := Lib.hid hB4.size
  clear g0 g1' g2' hs hB r1 r2 r3 r4 hx hy hz ht gm hBm hsm m0 m1 m2 m3 u0 u1 u2 u3 hB4
  have n1 : ¬ (w.heap.size + 1 + 1 = w.heap.size) := by omega
  have n2 : ¬ (w.heap.size + 1 + 1 = w.heap.size + 1) := by omega
  have hfd := field_kind 80
  go_enter Tryz.func58, Tryz.ntmps58
  go_wp2_with fail
  clear hW hmm hWm e0 e1 e2 e3
  go_region_held3 (fun w' => w'.cell? ⟨w.heap.size, 0, none⟩ = some (.bool g1) ∧ w'.cell? ⟨w.heap.size, 1, none⟩ = some (.slice A1 l1.length c1) ∧ w'.cell? ⟨w.heap.size, 2, none⟩ = some (.bool g2) ∧ w'.cell? ⟨w.heap.size, 3, none⟩ = some (.slice A2 l2.length c2) ∧ w'.cell? ⟨w.heap.size + 1, 0, none⟩ = some (.bool g3) ∧ w'.cell? ⟨w.heap.size + 1, 1, none⟩ = some (.slice A3 l3.length c3) ∧ w'.cell? ⟨w.heap.size + 1, 2, none⟩ = some (.bool g4) ∧ w'.cell? ⟨w.heap.size + 1, 3, none⟩ = some (.slice A4 l4.length c4) ∧ (Instr.lookup 121 (.map (some W.heap.size)) (.string ⟨#[115, 117, 98]⟩) false).run Tryz.prog w' = .ok (.agg #[.func (.func 80) #[] #[]]) w') (first | with_reducible exact ⟨k0, k1, k2, k3, k4, k5, k6, k7, k8⟩ | with_reducible exact ⟨a0, a1, a2, a3, b0, b1, b2, b3, l0⟩ | exact ⟨(far4 n1).trans k0, (far4 n1).trans k1, (far4 n1).trans k2, (far4 n1).trans k3, (far4 n2).trans k4, (far4 n2).trans k5, (far4 n2).trans k6, (far4 n2).trans k7, HGET.out _ (set_far (set_far (set_far (set_far hm4 n3) n3) n3) n3)⟩)
    (first
      | (go_at_call 53; refine (of_calls _ _ _ k _ (by exact HU.out) (by omega) hk1).mono ?_; rintro e w1 ⟨hb1, q1, N1, D1, rfl, z1, p1, v1⟩; have k0 := cell_below hb1 a0; have k1 := cell_below hb1 a1; have k2 := cell_below hb1 a2; have k3 := cell_below hb1 a3; have k4 := cell_below hb1 b0; have k5 := cell_below hb1 b1; have k6 := cell_below hb1 b2; have k7 := cell_below hb1 b3; have hm1 := heap_below hb1 HM.out; have k8 := HGET.out _ hm1; have HB1 := Lib.hid hb1; have Z1 := Lib.hid z1; have P1 := Lib.hid (And.intro p1 v1); clear hb1 z1 p1 v1)
      | (go_at_call 53; refine (of_calls _ _ _ k _ (by exact HV.out.below HB1.out) (by omega) hk1).mono ?_; rintro e w2 ⟨hb2, q2, N2, D2, rfl, z2, p2, v2⟩; have k0 := cell_below hb2 k0; have k1 := cell_below hb2 k1; have k2 := cell_below hb2 k2; have k3 := cell_below hb2 k3; have k4 := cell_below hb2 k4; have k5 := cell_below hb2 k5; have k6 := cell_below hb2 k6; have k7 := cell_below hb2 k7; have hm2 := heap_below hb2 hm1; have k8 := HGET.out _ hm2; have HB2 := Lib.hid (below_next HB1.out hb2); have Z1' := Lib.hid (Z1.out.below hb2); have Z2 := Lib.hid z2; have P2 := Lib.hid (And.intro p2 v2); clear hb2 z2 p2 v2)
      | (go_at_call 80; refine (lam_sub _ _ _ _ _ _ k _ (by exact Z1'.out) (by exact Z2.out) (by omega)).mono ?_; rintro e w3 ⟨hb3, q3, rfl, z3⟩; have k0 := cell_below hb3 k0; have k1 := cell_below hb3 k1; have k2 := cell_below hb3 k2; have k3 := cell_below hb3 k3; have k4 := cell_below hb3 k4; have k5 := cell_below hb3 k5; have k6 := cell_below hb3 k6; have k7 := cell_below hb3 k7; have hm3 := heap_below hb3 hm2; have k8 := HGET.out _ hm3; have HB3 := Lib.hid (below_next HB2.out hb3); have Z3 := Lib.hid z3; clear hb3 z3)
      | (go_at_call 74; refine (least_calls _ _ _ (2 * k + 1) _ (by exact Z3.out) (by omega) (by omega) (by exact Int.mul_pos P1.out.1 P2.out.1)).mono ?_; rintro e w4 ⟨hb4, q4, rfl, z4⟩; obtain ⟨t4, C4, i4, j4, s4, B4, m4, o4, rfl, Z4⟩ := z4.open; have k0 := cell_below hb4 k0; have k1 := cell_below hb4 k1; have k2 := cell_below hb4 k2; have k3 := cell_below hb4 k3; have k4 := cell_below hb4 k4; have k5 := cell_below hb4 k5; have k6 := cell_below hb4 k6; have k7 := cell_below hb4 k7; have hm4 := heap_below hb4 hm3; have k8 := HGET.out _ hm4; have HB4 := Lib.hid (below_next HB3.out hb4); have HSZ := Lib.hid (Nat.le_trans HB3.out.size (Nat.le_refl _)); have hg3 := heap_below (below_next HB3.out hb4) G2.out; have p0 : w4.cell? ⟨w.heap.size + 1 + 1, 0, none⟩ = some (.bool false) := hcell hg3 0 rfl; have p1 : w4.cell? ⟨w.heap.size + 1 + 1, 1, none⟩ = some (.slice none 0 0) := hcell hg3 1 rfl; have p2 : w4.cell? ⟨w.heap.size + 1 + 1, 2, none⟩ = some (.bool false) := hcell hg3 2 rfl; have p3 : w4.cell? ⟨w.heap.size + 1 + 1, 3, none⟩ = some (.slice none 0 0) := hcell hg3 3 rfl; have f0 := hfree hg3 0; have f1 := hfree hg3 1; have f2 := hfree hg3 2; have f3 := hfree hg3 3; clear hg3 hb4 z4))
  all_goals
    go_wp2
    refine bodyPost_ret (v := .agg #[.bool t4, .slice C4 i4 j4, .bool s4, .slice B4 m4 o4]) (by simp [results, Tryz.results58, go_sem, p0, p1, p2, p3]) rfl ?_
    have h1 := HS.out
    have h2 := HSV.out
    have h3 : V3.heap.size ≤ w3.heap.size := HSZ.out
    have hz := Z4.out
    rw [← Rat.divInt_sub_divInt _ _ (Int.ne_of_gt P1.out.1) (Int.ne_of_gt P2.out.1), P1.out.2, P2.out.2] at hz
    exact ⟨four_stores (below_next (below_drew HBV.out) HB4.out) (by omega), _, rfl, hz.stored (by omega) (by omega)⟩

set_option maxRecDepth 100000 in
set_option maxHeartbeats 4000000 in
theorem does_mul (u v : Value) (x y z t : Int) (k : Nat) (w : World) (hu : QQ (fun _ _ => True) w u x y k) (hv : QQ (fun _ _ => True) w v z t k) (hk : k ≤ 100000000) (hk1 : 1 ≤ k) :
    Calls Tryz.prog 58 #[.string ⟨#[109, 117, 108]⟩, u, v] w fun e w' => Below w.heap.size w w' ∧ ∃ r, e = .returned r ∧ QC w.heap.size w' r (fv x y * fv z t) := by
  obtain ⟨g1, A1, c1, l1, g2, A2, c2, l2, rfl, r1, r2, hx, hy, le1, le2⟩ := hu
  obtain ⟨g3, A3, c3, l3, g4, A4, c4, l4, rfl, r3, r4, hz, ht, le3, le4⟩ := hv
  obtain ⟨W, hW, g0, g1', g2', hB, hs⟩ := three_boxes w (.cells #[.bool g1, .slice A1 l1.length c1, .bool g2, .slice A2 l2.length c2] 44) (.cells #[.bool g3, .slice A3 l3.length c3, .bool g4, .slice A4 l4.length c4] 44) (.cells #[.bool false, .slice none 0 0, .bool false, .slice none 0 0] 44)
  have hmm := @run_makeMap Tryz.prog
  obtain ⟨Wm, hWm, gm, hBm, hsm⟩ := one_box W (.map #[] 0)
  obtain ⟨V0, e0, m0, u0⟩ := map_put (s := ⟨#[97, 100, 100]⟩) (val := .agg #[.func (.func 78) #[] #[]]) Tryz.underlying121 Tryz.underlying9 gm rfl
  obtain ⟨V1, e1, m1, u1⟩ := map_put (s := ⟨#[115, 117, 98]⟩) (val := .agg #[.func (.func 80) #[] #[]]) Tryz.underlying121 Tryz.underlying9 m0 rfl
  obtain ⟨V2, e2, m2, u2⟩ := map_put (s := ⟨#[109, 117, 108]⟩) (val := .agg #[.func (.func 81) #[] #[]]) Tryz.underlying121 Tryz.underlying9 m1 rfl
  obtain ⟨V3, e3, m3, u3⟩ := map_put (s := ⟨#[100, 105, 118]⟩) (val := .agg #[.func (.func 82) #[] #[]]) Tryz.underlying121 Tryz.underlying9 m2 rfl
  have hB4 : Below W.heap.size W V3 := below_grown (below_grown (below_grown (below_grown hBm u0 (fun k h => by cases h; exact Nat.le_refl _)) u1 (fun k h => by cases h; exact Nat.le_refl _)) u2 (fun k h => by cases h; exact Nat.le_refl _)) u3 (fun k h => by cases h; exact Nat.le_refl _)
  have HGET : Hid (∀ w' : World, w'.heap[W.heap.size]? = some (.map #[⟨.string ⟨#[97, 100, 100]⟩, .agg #[.func (.func 78) #[] #[]], 0⟩, ⟨.string ⟨#[115, 117, 98]⟩, .agg #[.func (.func 80) #[] #[]], 1⟩, ⟨.string ⟨#[109, 117, 108]⟩, .agg #[.func (.func 81) #[] #[]], 2⟩, ⟨.string ⟨#[100, 105, 118]⟩, .agg #[.func (.func 82) #[] #[]], 3⟩] 4) → (Instr.lookup 121 (.map (some W.heap.size)) (.string ⟨#[109, 117, 108]⟩) false).run Tryz.prog w' = .ok (.agg #[.func (.func 81) #[] #[]]) w') := Lib.hid fun w' hw => map_get Tryz.underlying121 Tryz.underlying9 hw rfl
  have HM : Hid (V3.drew.heap[W.heap.size]? = some (.map #[⟨.string ⟨#[97, 100, 100]⟩, .agg #[.func (.func 78) #[] #[]], 0⟩, ⟨.string ⟨#[115, 117, 98]⟩, .agg #[.func (.func 80) #[] #[]], 1⟩, ⟨.string ⟨#[109, 117, 108]⟩, .agg #[.func (.func 81) #[] #[]], 2⟩, ⟨.string ⟨#[100, 105, 118]⟩, .agg #[.func (.func 82) #[] #[]], 3⟩] 4)) := Lib.hid m3
  have l0 := HGET.out _ HM.out
  have a0 : V3.drew.cell? ⟨w.heap.size, 0, none⟩ = some (.bool g1) := hcell (heap_below (below_drew hB4) g0) 0 rfl
  have a1 : V3.drew.cell? ⟨w.heap.size, 1, none⟩ = some (.slice A1 l1.length c1) := hcell (heap_below (below_drew hB4) g0) 1 rfl
  have a2 : V3.drew.cell? ⟨w.heap.size, 2, none⟩ = some (.bool g2) := hcell (heap_below (below_drew hB4) g0) 2 rfl
  have a3 : V3.drew.cell? ⟨w.heap.size, 3, none⟩ = some (.slice A2 l2.length c2) := hcell (heap_below (below_drew hB4) g0) 3 rfl
  have b0 : V3.drew.cell? ⟨w.heap.size + 1, 0, none⟩ = some (.bool g3) := hcell (heap_below (below_drew hB4) g1') 0 rfl
  have b1 : V3.drew.cell? ⟨w.heap.size + 1, 1, none⟩ = some (.slice A3 l3.length c3) := hcell (heap_below (below_drew hB4) g1') 1 rfl
  have b2 : V3.drew.cell? ⟨w.heap.size + 1, 2, none⟩ = some (.bool g4) := hcell (heap_below (below_drew hB4) g1') 2 rfl
  have b3 : V3.drew.cell? ⟨w.heap.size + 1, 3, none⟩ = some (.slice A4 l4.length c4) := hcell (heap_below (below_drew hB4) g1') 3 rfl
  have HU : Hid (QQ (fun _ _ => True) V3.drew (.agg #[.bool g1, .slice A1 l1.length c1, .bool g2, .slice A2 l2.length c2]) x y k) := Lib.hid ⟨_, _, _, _, _, _, _, _, rfl, (r1.below (below_next hB hB4)).drew, (r2.below (below_next hB hB4)).drew, hx, hy, le1, le2⟩
  have HV : Hid (QQ (fun _ _ => True) V3.drew (.agg #[.bool g3, .slice A3 l3.length c3, .bool g4, .slice A4 l4.length c4]) z t k) := Lib.hid ⟨_, _, _, _, _, _, _, _, rfl, (r3.below (below_next hB hB4)).drew, (r4.below (below_next hB hB4)).drew, hz, ht, le3, le4⟩
  have G2 : Hid (V3.drew.heap[w.heap.size + 1 + 1]? = some (.cells #[.bool false, .slice none 0 0, .bool false, .slice none 0 0] 44 (0, 0))) := Lib.hid (heap_below (below_drew hB4) g2')
  have n3 : W.heap.size ≠ w.heap.size + 1 + 1 := by omega
  have HS := Lib.hid hs
  have HBV := Lib.hid (below_next hB hB4)
  have HSV := Lib.hid hB4.size
  clear g0 g1' g2' hs hB r1 r2 r3 r4 hx hy hz ht gm hBm hsm m0 m1 m2 m3 u0 u1 u2 u3 hB4
  have n1 : ¬ (w.heap.size + 1 + 1 = w.heap.size) := by omega
  have n2 : ¬ (w.heap.size + 1 + 1 = w.heap.size + 1) := by omega
  have hfd := field_kind 81
  go_enter Tryz.func58, Tryz.ntmps58
  go_wp2_with fail
  clear hW hmm hWm e0 e1 e2 e3
  go_region_held3 (fun w' => w'.cell? ⟨w.heap.size, 0, none⟩ = some (.bool g1) ∧ w'.cell? ⟨w.heap.size, 1, none⟩ = some (.slice A1 l1.length c1) ∧ w'.cell? ⟨w.heap.size, 2, none⟩ = some (.bool g2) ∧ w'.cell? ⟨w.heap.size, 3, none⟩ = some (.slice A2 l2.length c2) ∧ w'.cell? ⟨w.heap.size + 1, 0, none⟩ = some (.bool g3) ∧ w'.cell? ⟨w.heap.size + 1, 1, none⟩ = some (.slice A3 l3.length c3) ∧ w'.cell? ⟨w.heap.size + 1, 2, none⟩ = some (.bool g4) ∧ w'.cell? ⟨w.heap.size + 1, 3, none⟩ = some (.slice A4 l4.length c4) ∧ (Instr.lookup 121 (.map (some W.heap.size)) (.string ⟨#[109, 117, 108]⟩) false).run Tryz.prog w' = .ok (.agg #[.func (.func 81) #[] #[]]) w') (first | with_reducible exact ⟨k0, k1, k2, k3, k4, k5, k6, k7, k8⟩ | with_reducible exact ⟨a0, a1, a2, a3, b0, b1, b2, b3, l0⟩ | exact ⟨(far4 n1).trans k0, (far4 n1).trans k1, (far4 n1).trans k2, (far4 n1).trans k3, (far4 n2).trans k4, (far4 n2).trans k5, (far4 n2).trans k6, (far4 n2).trans k7, HGET.out _ (set_far (set_far (set_far (set_far hm4 n3) n3) n3) n3)⟩)
    (first
      | (go_at_call 53; refine (of_calls _ _ _ k _ (by exact HU.out) (by omega) hk1).mono ?_; rintro e w1 ⟨hb1, q1, N1, D1, rfl, z1, p1, v1⟩; have k0 := cell_below hb1 a0; have k1 := cell_below hb1 a1; have k2 := cell_below hb1 a2; have k3 := cell_below hb1 a3; have k4 := cell_below hb1 b0; have k5 := cell_below hb1 b1; have k6 := cell_below hb1 b2; have k7 := cell_below hb1 b3; have hm1 := heap_below hb1 HM.out; have k8 := HGET.out _ hm1; have HB1 := Lib.hid hb1; have Z1 := Lib.hid z1; have P1 := Lib.hid (And.intro p1 v1); clear hb1 z1 p1 v1)
      | (go_at_call 53; refine (of_calls _ _ _ k _ (by exact HV.out.below HB1.out) (by omega) hk1).mono ?_; rintro e w2 ⟨hb2, q2, N2, D2, rfl, z2, p2, v2⟩; have k0 := cell_below hb2 k0; have k1 := cell_below hb2 k1; have k2 := cell_below hb2 k2; have k3 := cell_below hb2 k3; have k4 := cell_below hb2 k4; have k5 := cell_below hb2 k5; have k6 := cell_below hb2 k6; have k7 := cell_below hb2 k7; have hm2 := heap_below hb2 hm1; have k8 := HGET.out _ hm2; have HB2 := Lib.hid (below_next HB1.out hb2); have Z1' := Lib.hid (Z1.out.below hb2); have Z2 := Lib.hid z2; have P2 := Lib.hid (And.intro p2 v2); clear hb2 z2 p2 v2)
      | (go_at_call 81; refine (lam_mul _ _ _ _ _ _ k _ (by exact Z1'.out) (by exact Z2.out) (by omega)).mono ?_; rintro e w3 ⟨hb3, q3, rfl, z3⟩; have k0 := cell_below hb3 k0; have k1 := cell_below hb3 k1; have k2 := cell_below hb3 k2; have k3 := cell_below hb3 k3; have k4 := cell_below hb3 k4; have k5 := cell_below hb3 k5; have k6 := cell_below hb3 k6; have k7 := cell_below hb3 k7; have hm3 := heap_below hb3 hm2; have k8 := HGET.out _ hm3; have HB3 := Lib.hid (below_next HB2.out hb3); have Z3 := Lib.hid z3; clear hb3 z3)
      | (go_at_call 74; refine (least_calls _ _ _ (2 * k + 1) _ (by exact Z3.out) (by omega) (by omega) (by exact Int.mul_pos P1.out.1 P2.out.1)).mono ?_; rintro e w4 ⟨hb4, q4, rfl, z4⟩; obtain ⟨t4, C4, i4, j4, s4, B4, m4, o4, rfl, Z4⟩ := z4.open; have k0 := cell_below hb4 k0; have k1 := cell_below hb4 k1; have k2 := cell_below hb4 k2; have k3 := cell_below hb4 k3; have k4 := cell_below hb4 k4; have k5 := cell_below hb4 k5; have k6 := cell_below hb4 k6; have k7 := cell_below hb4 k7; have hm4 := heap_below hb4 hm3; have k8 := HGET.out _ hm4; have HB4 := Lib.hid (below_next HB3.out hb4); have HSZ := Lib.hid (Nat.le_trans HB3.out.size (Nat.le_refl _)); have hg3 := heap_below (below_next HB3.out hb4) G2.out; have p0 : w4.cell? ⟨w.heap.size + 1 + 1, 0, none⟩ = some (.bool false) := hcell hg3 0 rfl; have p1 : w4.cell? ⟨w.heap.size + 1 + 1, 1, none⟩ = some (.slice none 0 0) := hcell hg3 1 rfl; have p2 : w4.cell? ⟨w.heap.size + 1 + 1, 2, none⟩ = some (.bool false) := hcell hg3 2 rfl; have p3 : w4.cell? ⟨w.heap.size + 1 + 1, 3, none⟩ = some (.slice none 0 0) := hcell hg3 3 rfl; have f0 := hfree hg3 0; have f1 := hfree hg3 1; have f2 := hfree hg3 2; have f3 := hfree hg3 3; clear hg3 hb4 z4))
  all_goals
    go_wp2
    refine bodyPost_ret (v := .agg #[.bool t4, .slice C4 i4 j4, .bool s4, .slice B4 m4 o4]) (by simp [results, Tryz.results58, go_sem, p0, p1, p2, p3]) rfl ?_
    have h1 := HS.out
    have h2 := HSV.out
    have h3 : V3.heap.size ≤ w3.heap.size := HSZ.out
    have hz := Z4.out
    rw [← Rat.divInt_mul_divInt, P1.out.2, P2.out.2] at hz
    exact ⟨four_stores (below_next (below_drew HBV.out) HB4.out) (by omega), _, rfl, hz.stored (by omega) (by omega)⟩
end Go.Proofs.YtlaemhigmgmgjaaGreat
/- frac: Add, Sub, Mul: what they return. No condition beyond sizes. (Printed by tools/frac.py.) -/
namespace Go.Proofs.YtlaemhigmgmgjaaGreat
set_option linter.unusedVariables false
set_option linter.unusedSimpArgs false
open Go.RowKit

set_option maxRecDepth 100000 in
set_option maxHeartbeats 2000000 in
theorem fadd_calls (u v : Value) (p q : Rat) (k : Nat) (w : World) (hu : QIn (fun _ _ => True) w u p k) (hv : QIn (fun _ _ => True) w v q k) (hk : k ≤ 100000000) (hk1 : 1 ≤ k) :
    Calls Tryz.prog 25 #[u, v] w fun e w' => Below w.heap.size w w' ∧ ∃ r, e = .returned r ∧ QC w.heap.size w' r (p + q) := by
  obtain ⟨t0, A0, m0, c0, s0, B0, j0, d0, rfl, HU⟩ := hu.form
  obtain ⟨t1, A1, m1, c1, s1, B1, j1, d1, rfl, HV⟩ := hv.form
  obtain ⟨W, hW, g0, g1', g2', hB, hs⟩ := three_boxes w (.cells #[.bool t0, .slice A0 m0 c0, .bool s0, .slice B0 j0 d0] 44) (.cells #[.bool t1, .slice A1 m1 c1, .bool s1, .slice B1 j1 d1] 44) (.cells #[.bool false, .slice none 0 0, .bool false, .slice none 0 0] 44)
  have a0 : W.cell? ⟨w.heap.size, 0, none⟩ = some (.bool t0) := hcell g0 0 rfl
  have a1 : W.cell? ⟨w.heap.size, 1, none⟩ = some (.slice A0 m0 c0) := hcell g0 1 rfl
  have a2 : W.cell? ⟨w.heap.size, 2, none⟩ = some (.bool s0) := hcell g0 2 rfl
  have a3 : W.cell? ⟨w.heap.size, 3, none⟩ = some (.slice B0 j0 d0) := hcell g0 3 rfl
  have b0 : W.cell? ⟨w.heap.size + 1, 0, none⟩ = some (.bool t1) := hcell g1' 0 rfl
  have b1 : W.cell? ⟨w.heap.size + 1, 1, none⟩ = some (.slice A1 m1 c1) := hcell g1' 1 rfl
  have b2 : W.cell? ⟨w.heap.size + 1, 2, none⟩ = some (.bool s1) := hcell g1' 2 rfl
  have b3 : W.cell? ⟨w.heap.size + 1, 3, none⟩ = some (.slice B1 j1 d1) := hcell g1' 3 rfl
  have G2 : Hid (W.heap[w.heap.size + 1 + 1]? = some (.cells #[.bool false, .slice none 0 0, .bool false, .slice none 0 0] 44 (0, 0))) := Lib.hid g2'
  have HS := Lib.hid hs
  have HB := Lib.hid hB
  clear g0 g1' g2' hs hB hu hv
  go_enter Tryz.func25, Tryz.ntmps25
  go_wp2_with fail
  clear hW
  obtain ⟨x, y, hx, hxv⟩ := HU.out.below HB.out
  obtain ⟨z, t, hz, hzv⟩ := HV.out.below HB.out
  refine (does_add _ _ x y z t k _ hx hz hk hk1).mono ?_
  rintro e w1 ⟨hb1, r, rfl, hr⟩
  rw [hxv, hzv] at hr
  obtain ⟨t4, C4, i4, j4, s4, B4, m4, o4, rfl, Z4⟩ := hr.open
  have HB1 := Lib.hid hb1
  have hg := heap_below hb1 G2.out
  have p0 : w1.cell? ⟨w.heap.size + 1 + 1, 0, none⟩ = some (.bool false) := hcell hg 0 rfl
  have p1 : w1.cell? ⟨w.heap.size + 1 + 1, 1, none⟩ = some (.slice none 0 0) := hcell hg 1 rfl
  have p2 : w1.cell? ⟨w.heap.size + 1 + 1, 2, none⟩ = some (.bool false) := hcell hg 2 rfl
  have p3 : w1.cell? ⟨w.heap.size + 1 + 1, 3, none⟩ = some (.slice none 0 0) := hcell hg 3 rfl
  have f0 := hfree hg 0
  have f1 := hfree hg 1
  have f2 := hfree hg 2
  have f3 := hfree hg 3
  clear hx hxv hz hzv hr hb1 hg
  go_wp2
  refine bodyPost_ret (v := .agg #[.bool t4, .slice C4 i4 j4, .bool s4, .slice B4 m4 o4]) (by simp [results, Tryz.results25, go_sem, p0, p1, p2, p3]) rfl ?_
  have h1 := HS.out
  exact ⟨four_stores (below_next HB.out HB1.out) (by omega), _, rfl, Z4.out.stored (by omega) (by omega)⟩

set_option maxRecDepth 100000 in
set_option maxHeartbeats 2000000 in
theorem fsub_calls (u v : Value) (p q : Rat) (k : Nat) (w : World) (hu : QIn (fun _ _ => True) w u p k) (hv : QIn (fun _ _ => True) w v q k) (hk : k ≤ 100000000) (hk1 : 1 ≤ k) :
    Calls Tryz.prog 27 #[u, v] w fun e w' => Below w.heap.size w w' ∧ ∃ r, e = .returned r ∧ QC w.heap.size w' r (p - q) := by
  obtain ⟨t0, A0, m0, c0, s0, B0, j0, d0, rfl, HU⟩ := hu.form
  obtain ⟨t1, A1, m1, c1, s1, B1, j1, d1, rfl, HV⟩ := hv.form
  obtain ⟨W, hW, g0, g1', g2', hB, hs⟩ := three_boxes w (.cells #[.bool t0, .slice A0 m0 c0, .bool s0, .slice B0 j0 d0] 44) (.cells #[.bool t1, .slice A1 m1 c1, .bool s1, .slice B1 j1 d1] 44) (.cells #[.bool false, .slice none 0 0, .bool false, .slice none 0 0] 44)
  have a0 : W.cell? ⟨w.heap.size, 0, none⟩ = some (.bool t0) := hcell g0 0 rfl
  have a1 : W.cell? ⟨w.heap.size, 1, none⟩ = some (.slice A0 m0 c0) := hcell g0 1 rfl
  have a2 : W.cell? ⟨w.heap.size, 2, none⟩ = some (.bool s0) := hcell g0 2 rfl
  have a3 : W.cell? ⟨w.heap.size, 3, none⟩ = some (.slice B0 j0 d0) := hcell g0 3 rfl
  have b0 : W.cell? ⟨w.heap.size + 1, 0, none⟩ = some (.bool t1) := hcell g1' 0 rfl
  have b1 : W.cell? ⟨w.heap.size + 1, 1, none⟩ = some (.slice A1 m1 c1) := hcell g1' 1 rfl
  have b2 : W.cell? ⟨w.heap.size + 1, 2, none⟩ = some (.bool s1) := hcell g1' 2 rfl
  have b3 : W.cell? ⟨w.heap.size + 1, 3, none⟩ = some (.slice B1 j1 d1) := hcell g1' 3 rfl
  have G2 : Hid (W.heap[w.heap.size + 1 + 1]? = some (.cells #[.bool false, .slice none 0 0, .bool false, .slice none 0 0] 44 (0, 0))) := Lib.hid g2'
  have HS := Lib.hid hs
  have HB := Lib.hid hB
  clear g0 g1' g2' hs hB hu hv
  go_enter Tryz.func27, Tryz.ntmps27
  go_wp2_with fail
  clear hW
  obtain ⟨x, y, hx, hxv⟩ := HU.out.below HB.out
  obtain ⟨z, t, hz, hzv⟩ := HV.out.below HB.out
  refine (does_sub _ _ x y z t k _ hx hz hk hk1).mono ?_
  rintro e w1 ⟨hb1, r, rfl, hr⟩
  rw [hxv, hzv] at hr
  obtain ⟨t4, C4, i4, j4, s4, B4, m4, o4, rfl, Z4⟩ := hr.open
  have HB1 := Lib.hid hb1
  have hg := heap_below hb1 G2.out
  have p0 : w1.cell? ⟨w.heap.size + 1 + 1, 0, none⟩ = some (.bool false) := hcell hg 0 rfl
  have p1 : w1.cell? ⟨w.heap.size + 1 + 1, 1, none⟩ = some (.slice none 0 0) := hcell hg 1 rfl
  have p2 : w1.cell? ⟨w.heap.size + 1 + 1, 2, none⟩ = some (.bool false) := hcell hg 2 rfl
  have p3 : w1.cell? ⟨w.heap.size + 1 + 1, 3, none⟩ = some (.slice none 0 0) := hcell hg 3 rfl
  have f0 := hfree hg 0
  have f1 := hfree hg 1
  have f2 := hfree hg 2
  have f3 := hfree hg 3
  clear hx hxv hz hzv hr hb1 hg
  go_wp2
  refine bodyPost_ret (v := .agg #[.bool t4, .slice C4 i4 j4, .bool s4, .slice B4 m4 o4]) (by simp [results, Tryz.results27, go_sem, p0, p1, p2, p3]) rfl ?_
  have h1 := HS.out
  exact ⟨four_stores (below_next HB.out HB1.out) (by omega), _, rfl, Z4.out.stored (by omega) (by omega)⟩

set_option maxRecDepth 100000 in
set_option maxHeartbeats 2000000 in
theorem fmul_calls (u v : Value) (p q : Rat) (k : Nat) (w : World) (hu : QIn (fun _ _ => True) w u p k) (hv : QIn (fun _ _ => True) w v q k) (hk : k ≤ 100000000) (hk1 : 1 ≤ k) :
    Calls Tryz.prog 26 #[u, v] w fun e w' => Below w.heap.size w w' ∧ ∃ r, e = .returned r ∧ QC w.heap.size w' r (p * q) := by
  obtain ⟨t0, A0, m0, c0, s0, B0, j0, d0, rfl, HU⟩ := hu.form
  obtain ⟨t1, A1, m1, c1, s1, B1, j1, d1, rfl, HV⟩ := hv.form
  obtain ⟨W, hW, g0, g1', g2', hB, hs⟩ := three_boxes w (.cells #[.bool t0, .slice A0 m0 c0, .bool s0, .slice B0 j0 d0] 44) (.cells #[.bool t1, .slice A1 m1 c1, .bool s1, .slice B1 j1 d1] 44) (.cells #[.bool false, .slice none 0 0, .bool false, .slice none 0 0] 44)
  have a0 : W.cell? ⟨w.heap.size, 0, none⟩ = some (.bool t0) := hcell g0 0 rfl
  have a1 : W.cell? ⟨w.heap.size, 1, none⟩ = some (.slice A0 m0 c0) := hcell g0 1 rfl
  have a2 : W.cell? ⟨w.heap.size, 2, none⟩ = some (.bool s0) := hcell g0 2 rfl
  have a3 : W.cell? ⟨w.heap.size, 3, none⟩ = some (.slice B0 j0 d0) := hcell g0 3 rfl
  have b0 : W.cell? ⟨w.heap.size + 1, 0, none⟩ = some (.bool t1) := hcell g1' 0 rfl
  have b1 : W.cell? ⟨w.heap.size + 1, 1, none⟩ = some (.slice A1 m1 c1) := hcell g1' 1 rfl
  have b2 : W.cell? ⟨w.heap.size + 1, 2, none⟩ = some (.bool s1) := hcell g1' 2 rfl
  have b3 : W.cell? ⟨w.heap.size + 1, 3, none⟩ = some (.slice B1 j1 d1) := hcell g1' 3 rfl
  have G2 : Hid (W.heap[w.heap.size + 1 + 1]? = some (.cells #[.bool false, .slice none 0 0, .bool false, .slice none 0 0] 44 (0, 0))) := Lib.hid g2'
  have HS := Lib.hid hs
  have HB := Lib.hid hB
  clear g0 g1' g2' hs hB hu hv
  go_enter Tryz.func26, Tryz.ntmps26
  go_wp2_with fail
  clear hW
  obtain ⟨x, y, hx, hxv⟩ := HU.out.below HB.out
  obtain ⟨z, t, hz, hzv⟩ := HV.out.below HB.out
  refine (does_mul _ _ x y z t k _ hx hz hk hk1).mono ?_
  rintro e w1 ⟨hb1, r, rfl, hr⟩
  rw [hxv, hzv] at hr
  obtain ⟨t4, C4, i4, j4, s4, B4, m4, o4, rfl, Z4⟩ := hr.open
  have HB1 := Lib.hid hb1
  have hg := heap_below hb1 G2.out
  have p0 : w1.cell? ⟨w.heap.size + 1 + 1, 0, none⟩ = some (.bool false) := hcell hg 0 rfl
  have p1 : w1.cell? ⟨w.heap.size + 1 + 1, 1, none⟩ = some (.slice none 0 0) := hcell hg 1 rfl
  have p2 : w1.cell? ⟨w.heap.size + 1 + 1, 2, none⟩ = some (.bool false) := hcell hg 2 rfl
  have p3 : w1.cell? ⟨w.heap.size + 1 + 1, 3, none⟩ = some (.slice none 0 0) := hcell hg 3 rfl
  have f0 := hfree hg 0
  have f1 := hfree hg 1
  have f2 := hfree hg 2
  have f3 := hfree hg 3
  clear hx hxv hz hzv hr hb1 hg
  go_wp2
  refine bodyPost_ret (v := .agg #[.bool t4, .slice C4 i4 j4, .bool s4, .slice B4 m4 o4]) (by simp [results, Tryz.results26, go_sem, p0, p1, p2, p3]) rfl ?_
  have h1 := HS.out
  exact ⟨four_stores (below_next HB.out HB1.out) (by omega), _, rfl, Z4.out.stored (by omega) (by omega)⟩
end Go.Proofs.YtlaemhigmgmgjaaGreat
