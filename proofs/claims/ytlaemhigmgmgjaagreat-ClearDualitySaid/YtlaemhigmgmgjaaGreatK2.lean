/- Several texts of my own, joined. No condition beyond what each theorem states. -/
import Derived.Test.YtlaemhigmgmgjaaGreatK1
import Derived.Deep.LoopGhost
/- whole: Add, Sub, Mul, Cmp of integers: what they return. No condition beyond sizes. -/
namespace Go.Proofs.YtlaemhigmgmgjaaGreat
set_option linter.unusedVariables false
set_option linter.unusedSimpArgs false
open Go.RowKit

/-- An integer in memory. -/
def ZIn (ok : Nat → Option Obj → Prop) (w : World) (v : Value) (z : Int) (k : Nat) : Prop := ∃ (neg : Bool) (A : Option Addr) (c : Nat) (l : List Nat), v = .agg #[.bool neg, .slice A l.length c] ∧ Row Kd.u32 ok w (.slice A l.length c) l ∧ zv neg l = z ∧ l.length ≤ k
theorem ZIn.mono {ok ok' : Nat → Option Obj → Prop} {w : World} {v : Value} {z : Int} {k : Nat} (h : ZIn ok w v z k) (ho : ∀ k o, ok k o → ok' k o) : ZIn ok' w v z k := by
  obtain ⟨g, A, c, l, h1, h2, h3, h4⟩ := h
  exact ⟨g, A, c, l, h1, h2.mono ho, h3, h4⟩
theorem ZIn.any {ok : Nat → Option Obj → Prop} {w : World} {v : Value} {z : Int} {k : Nat} (h : ZIn ok w v z k) : ZIn (fun _ _ => True) w v z k := h.mono fun _ _ _ => trivial
theorem ZIn.below {ok : Nat → Option Obj → Prop} {w w' : World} {v : Value} {z : Int} {k : Nat} (h : ZIn ok w v z k) (hb : Below w.heap.size w w') : ZIn ok w' v z k := by
  obtain ⟨g, A, c, l, h1, h2, h3, h4⟩ := h
  exact ⟨g, A, c, l, h1, h2.below hb, h3, h4⟩
theorem ZIn.le {ok : Nat → Option Obj → Prop} {w : World} {v : Value} {z : Int} {k m : Nat} (h : ZIn ok w v z k) (hk : k ≤ m) : ZIn ok w v z m := by
  obtain ⟨g, A, c, l, h1, h2, h3, h4⟩ := h
  exact ⟨g, A, c, l, h1, h2, h3, Nat.le_trans h4 hk⟩
theorem zv_dig (z : Int) : zv (decide (z < 0)) (dig z.natAbs) = z := by
  unfold zv
  rw [nv_dig]
  by_cases h : z < 0 <;> simp [h] <;> omega
theorem ZC.zin {n : Nat} {w : World} {v : Value} {z : Int} {k : Nat} (h : ZC n w v z) (hk : (dig z.natAbs).length ≤ k) : ZIn (New n) w v z k := by
  obtain ⟨A, c, rfl, h2⟩ := h
  exact ⟨_, A, c, _, rfl, h2, zv_dig z, hk⟩
theorem ZC.mono {n m : Nat} {w : World} {v : Value} {z : Int} (h : ZC n w v z) (hm : m ≤ n) : ZC m w v z := by
  obtain ⟨A, c, h1, h2⟩ := h
  exact ⟨A, c, h1, h2.new hm⟩
theorem ZC.below {n : Nat} {w w' : World} {v : Value} {z : Int} (h : ZC n w v z) (hb : Below w.heap.size w w') : ZC n w' v z := by
  obtain ⟨A, c, h1, h2⟩ := h
  exact ⟨A, c, h1, h2.below hb⟩
/-- What 'made' builds of a row. -/
theorem ZC.made {n m : Nat} {w : World} {A : Option Addr} {c : Nat} {l : List Nat} {neg : Bool} {z : Int} (hr : Row Kd.u32 (New m) w (.slice A (tr l).length c) (tr l)) (hw : WF l) (hz : zv neg l = z) (hm : n ≤ m) : ZC n w (.agg #[.bool (neg && decide (0 < (tr l).length)), .slice A (tr l).length c]) z := by
  obtain ⟨e1, e2⟩ := made_z (neg := neg) hw
  subst hz
  refine ⟨A, c, by rw [e1, e2], ?_⟩
  rw [← e2]
  exact hr.new hm
theorem ZC.stored {n m n0 : Nat} {w : World} {v x y : Value} {z : Int} (h : ZC m w v z) (hn : n ≤ m) (h0 : n0 < m) : ZC n ((w.setCell ⟨n0, 0, none⟩ x).setCell ⟨n0, 1, none⟩ y) v z := by
  obtain ⟨A, c, h1, h2⟩ := h
  exact ⟨A, c, h1, (h2.two h0).new hn⟩
theorem sign_ge (a b : Nat) (c : Int) (h : c.sign = ((a : Int) - b).sign) : 0 ≤ c ↔ b ≤ a := by
  have h1 : ∀ z : Int, 0 ≤ z ↔ 0 ≤ z.sign := by
    intro z
    rcases Int.lt_trichotomy z 0 with hz | hz | hz
    · rw [Int.sign_eq_neg_one_of_neg hz]; omega
    · subst hz; simp
    · rw [Int.sign_eq_one_of_pos hz]; omega
  rw [h1 c, h, ← h1]
  omega
theorem zv_tr (neg : Bool) (l : List Nat) : zv neg (tr l) = zv neg l := by unfold zv; rw [nv_tr]

set_option maxRecDepth 100000 in
set_option maxHeartbeats 2000000 in
theorem zadd_calls (u v : Value) (x y : Int) (k : Nat) (w : World) (hu : ZIn (fun _ _ => True) w u x k) (hv : ZIn (fun _ _ => True) w v y k) (hk : k ≤ 1000000000) :
    Calls Tryz.prog 79 #[u, v] w fun e w' => Below w.heap.size w w' ∧ ∃ r, e = .returned r ∧ ZC w.heap.size w' r (x + y) := by
  obtain ⟨ga, Aa, ca, a, rfl, ra, rfl, la⟩ := hu
  obtain ⟨gb, Ab, cb, b, rfl, rb, rfl, lb⟩ := hv
  obtain ⟨W, hW, g0, g1, g2, hB, hs⟩ := three_boxes w (.cells #[.bool ga, .slice Aa a.length ca] 42) (.cells #[.bool gb, .slice Ab b.length cb] 42) (.cells #[.bool false, .slice none 0 0] 42)
  have hra := (ra.below hB).drew
  have hrb := (rb.below hB).drew
  have c0 : W.cell? ⟨w.heap.size, 0, none⟩ = some (.bool ga) := hcell g0 0 rfl
  have c1 : W.cell? ⟨w.heap.size, 1, none⟩ = some (.slice Aa a.length ca) := hcell g0 1 rfl
  have c2 : W.cell? ⟨w.heap.size + 1, 0, none⟩ = some (.bool gb) := hcell g1 0 rfl
  have c3 : W.cell? ⟨w.heap.size + 1, 1, none⟩ = some (.slice Ab b.length cb) := hcell g1 1 rfl
  have G2 : Hid (W.heap[w.heap.size + 1 + 1]? = some (.cells #[.bool false, .slice none 0 0] 42 (0, 0))) := Lib.hid g2
  have HS := Lib.hid hs
  have HB := Lib.hid hB
  clear g0 g1 g2 hs hB ra rb
  have n1 : ¬ (w.heap.size + 1 + 1 = w.heap.size) := by omega
  have n2 : ¬ (w.heap.size + 1 + 1 = w.heap.size + 1) := by omega
  go_enter Tryz.func79, Tryz.ntmps79
  go_wp2_with fail
  clear hW
  go_region_held3 (fun w' => w'.cell? ⟨w.heap.size, 1, none⟩ = some (.slice Aa a.length ca) ∧ w'.cell? ⟨w.heap.size + 1, 1, none⟩ = some (.slice Ab b.length cb)) (go_keep)
    (first
      | (go_at_call 68; refine (trim_calls (fun _ _ => True) _ _ _ _ _ (by first | exact hra | exact hrb)).mono ?_; rintro e w1 ⟨rfl, rfl⟩))
  have la' := Nat.le_trans (tr_length a) la
  have lb' := Nat.le_trans (tr_length b) lb
  have hta := hra.trim
  have htb := hrb.trim
  by_cases hg : ga = gb
  · subst hg
    go_wp2_with fail
    have hta' := hta.drew
    have htb' := htb.drew
    go_region_held3 (fun w' => w'.cell? ⟨w.heap.size, 0, none⟩ = some (.bool ga)) (first | exact k0 | exact (World.cell?_setCell_far _ _ _ _ n1).trans ((World.cell?_setCell_far _ _ _ _ n1).trans k0) | go_keep)
      (first
        | (go_at_call 94; refine (add_calls (fun _ _ => True) _ _ _ _ _ _ (tr a) (tr b) _ hta' htb' (by omega) (by omega)).mono ?_; rintro e w1 ⟨A, n, cc, l, rfl, hr1, hn1, hl1, hb1⟩; have k0 := cell_below hb1 c0; have HB1 := Lib.hid hb1; have HN1 := Lib.hid hn1; clear hb1 hn1 hl1)
        | (go_at_call 73; refine (made_calls _ _ _ _ _ _ _ hr1).mono ?_; rintro e w2 ⟨hb2, hr2, rfl⟩; have d1 := heap_below hb2 (heap_below HB1.out (heap_drew (heap_drew G2.out))); have k0 := cell_below hb2 k0; have k2 : w2.cell? ⟨w.heap.size + 1 + 1, 0, none⟩ = some (.bool false) := hcell d1 0 rfl; have k3 : w2.cell? ⟨w.heap.size + 1 + 1, 1, none⟩ = some (.slice none 0 0) := hcell d1 1 rfl; have f2 := hfree d1 0; have f3 := hfree d1 1; have HB2 := Lib.hid hb2; have HR2 := Lib.hid (ZC.made (n := W.heap.size) (neg := ga) hr2 hr1.wf rfl (Nat.le_refl _)); clear hb2 hr2 d1))
    go_wp2
    refine bodyPost_ret (v := .agg #[.bool (ga && decide (0 < (tr l).length)), .slice A (tr l).length cc]) (by simp [results, Tryz.results79, go_sem, k2, k3]) rfl ?_
    have e : zv ga l = zv ga a + zv ga b := by have := HN1.out; rw [nv_tr, nv_tr] at this; unfold zv; cases ga <;> simp <;> omega
    have hr3 := HR2.out
    rw [e] at hr3
    have := HS.out
    exact ⟨two_stores (below_next (below_next (below_drew (below_drew HB.out)) HB1.out) HB2.out) (by omega), _, rfl, hr3.stored (by omega) (by omega)⟩
  · have hne : (ga == gb) = false := by cases ga <;> cases gb <;> simp_all
    have HG := Lib.hid hg
    clear hg
    go_wp2_with fail
    refine (cmp_calls (fun _ _ => True) _ _ _ _ _ _ (tr a) (tr b) _ hta htb (by omega) (by omega)).mono ?_
    rintro e w0 ⟨c, rfl, hci, hcs, hb0⟩
    have hle := sign_ge _ _ _ (hcs (tr_tr _) (tr_tr _))
    have HLE := Lib.hid hle
    have HB0 := Lib.hid hb0
    have hta' := (hta.below hb0).drew
    have htb' := (htb.below hb0).drew
    have c0' := cell_below hb0 (show W.drew.cell? ⟨w.heap.size, 0, none⟩ = _ from c0)
    have c2' := cell_below hb0 (show W.drew.cell? ⟨w.heap.size + 1, 0, none⟩ = _ from c2)
    have hG2 := heap_below hb0 (heap_drew G2.out)
    have HG2 := Lib.hid hG2
    have hs0 := hb0.size
    have HS0 := Lib.hid hs0
    clear hle hcs hb0 hta htb hra hrb c0 c1 c2 c3 hci hG2 G2 hs0
    by_cases hc : 0 ≤ c
    · have hle := HLE.out.1 hc
      go_wp2_with fail
      go_region_held3 (fun w' => w'.cell? ⟨w.heap.size, 0, none⟩ = some (.bool ga)) (first | exact k0 | exact (World.cell?_setCell_far _ _ _ _ n1).trans ((World.cell?_setCell_far _ _ _ _ n1).trans k0) | go_keep)
        (first
          | (go_at_call 96; refine (sub_calls (fun _ _ => True) _ _ _ _ _ _ (tr a) (tr b) _ hta' htb' (by omega) (by omega) hle).mono ?_; rintro e w1 ⟨A, n, cc, l, rfl, hr1, hn1, hl1, hb1⟩; have k0 := cell_below hb1 c0'; have HB1 := Lib.hid hb1; have HN1 := Lib.hid hn1; clear hb1 hn1 hl1)
          | (go_at_call 73; refine (made_calls _ _ _ _ _ _ _ hr1).mono ?_; rintro e w2 ⟨hb2, hr2, rfl⟩; have d1 := heap_below hb2 (heap_below HB1.out (heap_drew HG2.out)); have k0 := cell_below hb2 k0; have k2 : w2.cell? ⟨w.heap.size + 1 + 1, 0, none⟩ = some (.bool false) := hcell d1 0 rfl; have k3 : w2.cell? ⟨w.heap.size + 1 + 1, 1, none⟩ = some (.slice none 0 0) := hcell d1 1 rfl; have f2 := hfree d1 0; have f3 := hfree d1 1; have HB2 := Lib.hid hb2; have HR2 := Lib.hid (ZC.made (n := w0.heap.size) (neg := ga) hr2 hr1.wf rfl (Nat.le_refl _)); clear hb2 hr2 d1))
      go_wp2
      refine bodyPost_ret (v := .agg #[.bool (ga && decide (0 < (tr l).length)), .slice A (tr l).length cc]) (by simp [results, Tryz.results79, go_sem, k2, k3]) rfl ?_
      have e : zv ga l = zv ga a + zv gb b := by have h1 := HN1.out; have h2 := HG.out; rw [nv_tr, nv_tr] at h1 hle; unfold zv; cases ga <;> cases gb <;> simp at h2 ⊢ <;> omega
      have hr3 := HR2.out
      rw [e] at hr3
      have h1 := HS.out
      have h2 : W.heap.size ≤ w0.heap.size := HS0.out
      exact ⟨two_stores (below_next (below_next (below_drew (below_next (below_drew HB.out) HB0.out)) HB1.out) HB2.out) (by omega), _, rfl, hr3.stored (by omega) (by omega)⟩
    · have hle : nv (tr a) ≤ nv (tr b) := by have := mt HLE.out.2 hc; omega
      go_wp2_with fail
      go_region_held3 (fun w' => w'.cell? ⟨w.heap.size + 1, 0, none⟩ = some (.bool gb)) (first | exact k0 | exact (World.cell?_setCell_far _ _ _ _ n2).trans ((World.cell?_setCell_far _ _ _ _ n2).trans k0) | go_keep)
        (first
          | (go_at_call 96; refine (sub_calls (fun _ _ => True) _ _ _ _ _ _ (tr b) (tr a) _ htb' hta' (by omega) (by omega) hle).mono ?_; rintro e w1 ⟨A, n, cc, l, rfl, hr1, hn1, hl1, hb1⟩; have k0 := cell_below hb1 c2'; have HB1 := Lib.hid hb1; have HN1 := Lib.hid hn1; clear hb1 hn1 hl1)
          | (go_at_call 73; refine (made_calls _ _ _ _ _ _ _ hr1).mono ?_; rintro e w2 ⟨hb2, hr2, rfl⟩; have d1 := heap_below hb2 (heap_below HB1.out (heap_drew HG2.out)); have k0 := cell_below hb2 k0; have k2 : w2.cell? ⟨w.heap.size + 1 + 1, 0, none⟩ = some (.bool false) := hcell d1 0 rfl; have k3 : w2.cell? ⟨w.heap.size + 1 + 1, 1, none⟩ = some (.slice none 0 0) := hcell d1 1 rfl; have f2 := hfree d1 0; have f3 := hfree d1 1; have HB2 := Lib.hid hb2; have HR2 := Lib.hid (ZC.made (n := w0.heap.size) (neg := gb) hr2 hr1.wf rfl (Nat.le_refl _)); clear hb2 hr2 d1))
      go_wp2
      refine bodyPost_ret (v := .agg #[.bool (gb && decide (0 < (tr l).length)), .slice A (tr l).length cc]) (by simp [results, Tryz.results79, go_sem, k2, k3]) rfl ?_
      have e : zv gb l = zv ga a + zv gb b := by have h1 := HN1.out; have h2 := HG.out; rw [nv_tr, nv_tr] at h1 hle; unfold zv; cases ga <;> cases gb <;> simp at h2 ⊢ <;> omega
      have hr3 := HR2.out
      rw [e] at hr3
      have h1 := HS.out
      have h2 : W.heap.size ≤ w0.heap.size := HS0.out
      exact ⟨two_stores (below_next (below_next (below_drew (below_next (below_drew HB.out) HB0.out)) HB1.out) HB2.out) (by omega), _, rfl, hr3.stored (by omega) (by omega)⟩
end Go.Proofs.YtlaemhigmgmgjaaGreat
/- whole: Sub, Mul, Cmp of integers: what they return. No condition beyond sizes. -/
namespace Go.Proofs.YtlaemhigmgmgjaaGreat
set_option linter.unusedVariables false
set_option linter.unusedSimpArgs false
open Go.RowKit

theorem zv_mul (ga gb : Bool) {a b l : List Nat} (h : nv l = nv a * nv b) : zv (!(ga == gb)) l = zv ga a * zv gb b := by
  unfold zv
  rw [h]
  cases ga <;> cases gb <;> simp [Int.mul_neg, Int.neg_mul, Int.natCast_mul]
theorem zv_not (g : Bool) (l : List Nat) : zv (!g) l = -(zv g l) := by unfold zv; cases g <;> simp

set_option maxRecDepth 100000 in
set_option maxHeartbeats 2000000 in
theorem zsub_calls (u v : Value) (x y : Int) (k : Nat) (w : World) (hu : ZIn (fun _ _ => True) w u x k) (hv : ZIn (fun _ _ => True) w v y k) (hk : k ≤ 1000000000) :
    Calls Tryz.prog 76 #[u, v] w fun e w' => Below w.heap.size w w' ∧ ∃ r, e = .returned r ∧ ZC w.heap.size w' r (x - y) := by
  obtain ⟨ga, Aa, ca, a, rfl, ra, rfl, la⟩ := hu
  obtain ⟨gb, Ab, cb, b, rfl, rb, rfl, lb⟩ := hv
  obtain ⟨W, hW, g0, g1, g2, hB, hs⟩ := three_boxes w (.cells #[.bool ga, .slice Aa a.length ca] 42) (.cells #[.bool gb, .slice Ab b.length cb] 42) (.cells #[.bool false, .slice none 0 0] 42)
  have c0 : W.cell? ⟨w.heap.size, 0, none⟩ = some (.bool ga) := hcell g0 0 rfl
  have c1 : W.cell? ⟨w.heap.size, 1, none⟩ = some (.slice Aa a.length ca) := hcell g0 1 rfl
  have c2 : W.cell? ⟨w.heap.size + 1, 0, none⟩ = some (.bool gb) := hcell g1 0 rfl
  have c3 : W.cell? ⟨w.heap.size + 1, 1, none⟩ = some (.slice Ab b.length cb) := hcell g1 1 rfl
  have hua : ZIn (fun _ _ => True) W (.agg #[.bool ga, .slice Aa a.length ca]) (zv ga a) k := ⟨_, _, _, _, rfl, ra.below hB, rfl, la⟩
  have hub : ZIn (fun _ _ => True) W (.agg #[.bool (!gb), .slice Ab b.length cb]) (-(zv gb b)) k := ⟨_, _, _, _, rfl, rb.below hB, zv_not _ _, lb⟩
  have G2 : Hid (W.heap[w.heap.size + 1 + 1]? = some (.cells #[.bool false, .slice none 0 0] 42 (0, 0))) := Lib.hid g2
  have HS := Lib.hid hs
  have HB := Lib.hid hB
  clear g0 g1 g2 hs hB ra rb
  go_enter Tryz.func76, Tryz.ntmps76
  go_wp2_with fail
  clear hW
  refine (zadd_calls _ _ _ _ k _ hua hub hk).mono ?_
  rintro e w1 ⟨hb1, r, rfl, A, c, rfl, hr⟩
  have d1 := heap_below hb1 G2.out
  have k2 : w1.cell? ⟨w.heap.size + 1 + 1, 0, none⟩ = some (.bool false) := hcell d1 0 rfl
  have k3 : w1.cell? ⟨w.heap.size + 1 + 1, 1, none⟩ = some (.slice none 0 0) := hcell d1 1 rfl
  have f2 := hfree d1 0
  have f3 := hfree d1 1
  have HB1 := Lib.hid hb1
  have HR := Lib.hid hr
  have HUA := Lib.hid hua
  clear hb1 hr d1 hua hub
  rw [show zv ga a + -zv gb b = zv ga a - zv gb b from rfl] at *
  have hsm := HR.out.small
  obtain ⟨zz, hzz⟩ : ∃ zz, zz = zv ga a - zv gb b := ⟨_, rfl⟩
  rw [← hzz] at HR hsm ⊢
  have HZ := Lib.hid hzz
  clear hzz
  go_wp2
  refine bodyPost_ret (v := .agg #[.bool (decide (zz < 0)), .slice A (dig zz.natAbs).length c]) (by simp [results, Tryz.results76, go_sem, k2, k3]) rfl ?_
  have h1 := HS.out
  obtain rfl := HZ.out
  exact ⟨two_stores (below_next HB.out HB1.out) (by omega), _, rfl, ZC.stored (m := W.heap.size) ⟨A, c, rfl, HR.out⟩ (by omega) (by omega)⟩

set_option maxRecDepth 100000 in
set_option maxHeartbeats 2000000 in
theorem zmul_calls (u v : Value) (x y : Int) (k : Nat) (w : World) (hu : ZIn (fun _ _ => True) w u x k) (hv : ZIn (fun _ _ => True) w v y k) (hk : k ≤ 1000000000) :
    Calls Tryz.prog 55 #[u, v] w fun e w' => Below w.heap.size w w' ∧ ∃ r, e = .returned r ∧ ZC w.heap.size w' r (x * y) := by
  obtain ⟨ga, Aa, ca, a, rfl, ra, rfl, la⟩ := hu
  obtain ⟨gb, Ab, cb, b, rfl, rb, rfl, lb⟩ := hv
  obtain ⟨W, hW, g0, g1, g2, hB, hs⟩ := three_boxes w (.cells #[.bool ga, .slice Aa a.length ca] 42) (.cells #[.bool gb, .slice Ab b.length cb] 42) (.cells #[.bool false, .slice none 0 0] 42)
  have hra := (ra.below hB).drew
  have hrb := (rb.below hB).drew
  have c0 : W.cell? ⟨w.heap.size, 0, none⟩ = some (.bool ga) := hcell g0 0 rfl
  have c1 : W.cell? ⟨w.heap.size, 1, none⟩ = some (.slice Aa a.length ca) := hcell g0 1 rfl
  have c2 : W.cell? ⟨w.heap.size + 1, 0, none⟩ = some (.bool gb) := hcell g1 0 rfl
  have c3 : W.cell? ⟨w.heap.size + 1, 1, none⟩ = some (.slice Ab b.length cb) := hcell g1 1 rfl
  have G2 : Hid (W.heap[w.heap.size + 1 + 1]? = some (.cells #[.bool false, .slice none 0 0] 42 (0, 0))) := Lib.hid g2
  have HS := Lib.hid hs
  have HB := Lib.hid hB
  clear g0 g1 g2 hs hB ra rb
  have n1 : ¬ (w.heap.size + 1 + 1 = w.heap.size) := by omega
  have n2 : ¬ (w.heap.size + 1 + 1 = w.heap.size + 1) := by omega
  have la' := Nat.le_trans (tr_length a) la
  have lb' := Nat.le_trans (tr_length b) lb
  have hta := hra.trim
  have htb := hrb.trim
  go_enter Tryz.func55, Tryz.ntmps55
  go_wp2_with fail
  clear hW
  go_region_held3 (fun w' => w'.cell? ⟨w.heap.size, 0, none⟩ = some (.bool ga) ∧ w'.cell? ⟨w.heap.size + 1, 0, none⟩ = some (.bool gb) ∧ w'.cell? ⟨w.heap.size, 1, none⟩ = some (.slice Aa a.length ca) ∧ w'.cell? ⟨w.heap.size + 1, 1, none⟩ = some (.slice Ab b.length cb)) (first | exact ⟨k0, k1, k4, k5⟩ | exact ⟨(World.cell?_setCell_far _ _ _ _ n1).trans ((World.cell?_setCell_far _ _ _ _ n1).trans k0), (World.cell?_setCell_far _ _ _ _ n2).trans ((World.cell?_setCell_far _ _ _ _ n2).trans k1), (World.cell?_setCell_far _ _ _ _ n1).trans ((World.cell?_setCell_far _ _ _ _ n1).trans k4), (World.cell?_setCell_far _ _ _ _ n2).trans ((World.cell?_setCell_far _ _ _ _ n2).trans k5)⟩ | go_keep)
    (first
      | (go_at_call 68; refine (trim_calls (fun _ _ => True) _ _ _ _ _ (by first | exact hra | exact hrb)).mono ?_; rintro e w1 ⟨rfl, rfl⟩)
      | (go_at_call 77; refine (mul_calls (fun _ _ => True) _ _ _ _ _ _ (tr a) (tr b) _ hta htb (by omega) (by omega)).mono ?_; rintro e w1 ⟨A, n, cc, l, rfl, hr1, hn1, hl1, hb1⟩; have k0 := cell_below hb1 c0; have k1 := cell_below hb1 c2; have k4 := cell_below hb1 c1; have k5 := cell_below hb1 c3; have HB1 := Lib.hid hb1; have HN1 := Lib.hid hn1; clear hb1 hn1 hl1)
      | (go_at_call 73; refine (made_calls _ _ _ _ _ _ _ hr1).mono ?_; rintro e w2 ⟨hb2, hr2, rfl⟩; have d1 := heap_below hb2 (heap_below HB1.out (heap_drew G2.out)); have k0 := cell_below hb2 k0; have k1 := cell_below hb2 k1; have k4 := cell_below hb2 k4; have k5 := cell_below hb2 k5; have k2 : w2.cell? ⟨w.heap.size + 1 + 1, 0, none⟩ = some (.bool false) := hcell d1 0 rfl; have k3 : w2.cell? ⟨w.heap.size + 1 + 1, 1, none⟩ = some (.slice none 0 0) := hcell d1 1 rfl; have f2 := hfree d1 0; have f3 := hfree d1 1; have HB2 := Lib.hid hb2; have HR2 := Lib.hid (ZC.made (n := W.heap.size) (neg := !(ga == gb)) hr2 hr1.wf rfl (Nat.le_refl _)); clear hb2 hr2 d1))
  go_wp2
  refine bodyPost_ret (v := .agg #[.bool (!(ga == gb) && decide (0 < (tr l).length)), .slice A (tr l).length cc]) (by simp [results, Tryz.results55, go_sem, k2, k3]) rfl ?_
  have e : zv (!(ga == gb)) l = zv ga a * zv gb b := by have h1 := HN1.out; rw [nv_tr, nv_tr] at h1; exact zv_mul ga gb h1
  have hr3 := HR2.out
  rw [e] at hr3
  have := HS.out
  exact ⟨two_stores (below_next (below_next (below_drew HB.out) HB1.out) HB2.out) (by omega), _, rfl, hr3.stored (by omega) (by omega)⟩

set_option maxRecDepth 100000 in
set_option maxHeartbeats 2000000 in
theorem zcmp_calls (u v : Value) (x y : Int) (k : Nat) (w : World) (hu : ZIn (fun _ _ => True) w u x k) (hv : ZIn (fun _ _ => True) w v y k) (hk : k ≤ 1000000000) :
    Calls Tryz.prog 54 #[u, v] w fun e w' => Below w.heap.size w w' ∧ e = .returned (.int .i64 (x - y).sign) := by
  have hu' := hu
  have hv' := hv
  obtain ⟨ga, Aa, ca, a, rfl, ra, hxa, la⟩ := hu'
  obtain ⟨gb, Ab, cb, b, rfl, rb, hxb, lb⟩ := hv'
  obtain ⟨W, hW, g0, g1, hB, hs⟩ := two_boxes w (.cells #[.bool ga, .slice Aa a.length ca] 42) (.cells #[.bool gb, .slice Ab b.length cb] 42)
  have c0 : W.cell? ⟨w.heap.size, 0, none⟩ = some (.bool ga) := hcell g0 0 rfl
  have c1 : W.cell? ⟨w.heap.size, 1, none⟩ = some (.slice Aa a.length ca) := hcell g0 1 rfl
  have c2 : W.cell? ⟨w.heap.size + 1, 0, none⟩ = some (.bool gb) := hcell g1 0 rfl
  have c3 : W.cell? ⟨w.heap.size + 1, 1, none⟩ = some (.slice Ab b.length cb) := hcell g1 1 rfl
  have HU := Lib.hid (hu.below hB)
  have HV := Lib.hid (hv.below hB)
  have HB := Lib.hid hB
  clear g0 g1 hs hB ra rb hu hv hxa hxb
  go_enter Tryz.func54, Tryz.ntmps54
  go_wp2_with fail
  clear hW
  refine (zsub_calls _ _ x y k _ HU.out HV.out hk).mono ?_
  rintro e w1 ⟨hb1, r, rfl, A, c, rfl, hr⟩
  have HB1 := Lib.hid hb1
  have HR := Lib.hid hr
  clear hb1 hr
  go_wp2_with fail
  refine (wsign_calls _ _ _ _ _ _ _ HR.out).mono ?_
  rintro e w2 ⟨hb2, rfl⟩
  rw [zv_dig]
  have HB2 := Lib.hid hb2
  clear hb2
  go_wp2
  go_ret
  exact ⟨below_next (below_next HB.out HB1.out) HB2.out, rfl⟩
#print axioms zcmp_calls
end Go.Proofs.YtlaemhigmgmgjaaGreat
/- whole: GCD, DivMod of what divides: what they return. No condition beyond sizes. -/
namespace Go.Proofs.YtlaemhigmgmgjaaGreat
set_option linter.unusedVariables false
set_option linter.unusedSimpArgs false
open Go.RowKit

theorem dig_mono {m n : Nat} (h : m ≤ n) : (dig m).length ≤ (dig n).length := dig_length_le (Nat.lt_of_le_of_lt h (by have := nv_lt (wf_dig n); rwa [nv_dig] at this))
theorem dig_len_zero (n : Nat) : (dig n).length = 0 ↔ n = 0 := by
  constructor
  · intro h
    have := nv_dig n
    rw [List.eq_nil_of_length_eq_zero h] at this
    exact this.symm
  · rintro rfl; rw [dig_zero]; rfl

set_option maxRecDepth 100000 in
set_option maxHeartbeats 2000000 in
theorem zgcd_calls (u v : Value) (x y : Int) (k : Nat) (w : World) (hu : ZIn (fun _ _ => True) w u x k) (hv : ZIn (fun _ _ => True) w v y k) (hk : k ≤ 500000000) :
    Calls Tryz.prog 91 #[u, v] w fun e w' => Below w.heap.size w w' ∧ ∃ r, e = .returned r ∧ ZC w.heap.size w' r (Int.gcd x y : Int) := by
  obtain ⟨ga, Aa, ca, a, rfl, ra, rfl, la⟩ := hu
  obtain ⟨gb, Ab, cb, b, rfl, rb, rfl, lb⟩ := hv
  have hgcd : Int.gcd (zv ga a) (zv gb b) = Nat.gcd (nv a) (nv b) := by unfold zv; cases ga <;> cases gb <;> simp [Int.gcd]
  rw [hgcd]
  clear hgcd
  obtain ⟨W, hW, g0, g1, g2, hB, hs⟩ := three_boxes w (.cells #[.bool ga, .slice Aa a.length ca] 42) (.cells #[.bool gb, .slice Ab b.length cb] 42) (.cells #[.bool false, .slice none 0 0] 42)
  have hra := (ra.below hB).drew
  have hrb := (rb.below hB).drew
  have la' : (dig (nv a)).length ≤ k := by rw [← tr_eq_dig ra.wf]; exact Nat.le_trans (tr_length a) la
  have lb' : (dig (nv b)).length ≤ k := by rw [← tr_eq_dig rb.wf]; exact Nat.le_trans (tr_length b) lb
  have hta := hra.trim
  have htb := hrb.trim
  have ea := tr_eq_dig ra.wf
  have eb := tr_eq_dig rb.wf
  rw [ea] at hta
  rw [eb] at htb
  have HEA := Lib.hid ea
  have HEB := Lib.hid eb
  have HTA := Lib.hid hta
  have HTB := Lib.hid htb
  have c1 : W.cell? ⟨w.heap.size, 1, none⟩ = some (.slice Aa a.length ca) := hcell g0 1 rfl
  have c3 : W.cell? ⟨w.heap.size + 1, 1, none⟩ = some (.slice Ab b.length cb) := hcell g1 1 rfl
  have G2 : Hid (W.heap[w.heap.size + 1 + 1]? = some (.cells #[.bool false, .slice none 0 0] 42 (0, 0))) := Lib.hid g2
  have HS := Lib.hid hs
  have HB := Lib.hid hB
  clear g0 g1 g2 hs hB ra rb ea eb hta htb
  go_enter Tryz.func91, Tryz.ntmps91
  go_wp2_with fail
  clear hW
  go_region_held3 (fun w' => w'.cell? ⟨w.heap.size, 1, none⟩ = some (.slice Aa a.length ca) ∧ w'.cell? ⟨w.heap.size + 1, 1, none⟩ = some (.slice Ab b.length cb)) (go_keep)
    (first
      | (go_at_call 68; refine (trim_calls (fun _ _ => True) _ _ _ _ _ (by first | exact hra | exact hrb)).mono ?_; rintro e w1 ⟨rfl, rfl⟩))
  rw [HEA.out, HEB.out]
  clear hra hrb c1 c3
  rename_i hh
  clear hh
  obtain ⟨m0, hm0⟩ : ∃ m0, m0 = nv a := ⟨_, rfl⟩
  obtain ⟨n0, hn0⟩ : ∃ n0, n0 = nv b := ⟨_, rfl⟩
  rw [← hm0] at HTA la' ⊢
  rw [← hn0] at HTB lb' ⊢
  have HHL := Lib.hid (And.intro (Nat.le_trans la' hk) (Nat.le_trans lb' hk))
  have HM0 := Lib.hid (And.intro hm0 hn0)
  clear hm0 hn0 HEA HEB la' lb' la lb
  go_wp2_with fail
  go_loopg [5, 6] n0 (fun j s5 s6 wr => ∃ (m : Nat) (Am An : Option Addr) (cm cn : Nat), s5 = .slice Am (dig m).length cm ∧ s6 = .slice An (dig j).length cn ∧ Hid (Nat.gcd m j = Nat.gcd m0 n0) ∧ (dig m).length ≤ 500000000 ∧ (dig j).length ≤ 500000000 ∧ Hid (Row Kd.u32 (fun _ _ => True) wr (.slice Am (dig m).length cm) (dig m)) ∧ Hid (Row Kd.u32 (fun _ _ => True) wr (.slice An (dig j).length cn) (dig j)) ∧ Hid (Below W.heap.size W wr))
  case atStart =>
    exact ⟨m0, Aa, Ab, ca, cb, rfl, rfl, rfl, HHL.out.1, HHL.out.2, HTA.out, HTB.out, below_drew (Below.refl _ _)⟩
  case round =>
    obtain ⟨m, Am, An, cm, cn, rfl, rfl, HG, lm, ln, HRM, HRN, HBW⟩ := hrel
    clear HTA HTB
    obtain ⟨j, hj⟩ : ∃ j, j = gk := ⟨_, rfl⟩
    by_cases hz : gk = 0
    · subst hz
      have e0 : (dig 0).length = 0 := by rw [dig_zero]; rfl
      have hgm : m = Nat.gcd m0 n0 := by have := HG.out; simpa using this
      have HGM := Lib.hid hgm
      have HJ := Lib.hid hj
      clear hgm hj
      go_wp2_with fail
      refine (clone_calls (fun _ _ => True) _ _ _ (dig m) _ HRM.out (by omega)).mono ?_
      rintro e w1 ⟨hb1, A1, c1, rfl, hr1⟩
      have HB1 := Lib.hid hb1
      clear hb1
      go_wp2_with fail
      refine (made_calls _ _ _ _ _ _ _ hr1).mono ?_
      rintro e w2 ⟨hb2, hr2, rfl⟩
      have d1 := heap_below hb2 (heap_below HB1.out (heap_below HBW.out G2.out))
      have k2 : w2.cell? ⟨w.heap.size + 1 + 1, 0, none⟩ = some (.bool false) := hcell d1 0 rfl
      have k3 : w2.cell? ⟨w.heap.size + 1 + 1, 1, none⟩ = some (.slice none 0 0) := hcell d1 1 rfl
      have f2 := hfree d1 0
      have f3 := hfree d1 1
      have HB2 := Lib.hid hb2
      have HR2 := Lib.hid (ZC.made (n := W.heap.size) (neg := false) hr2 hr1.wf rfl HBW.out.size)
      clear hb2 hr2 d1
      go_wp2
      refine bodyPost_ret (v := .agg #[.bool (false && decide (0 < (tr (dig m)).length)), .slice A1 (tr (dig m)).length c1]) (by simp [results, Tryz.results91, go_sem, k2, k3]) rfl ?_
      have e : zv false (dig m) = (Nat.gcd m0 n0 : Int) := by unfold zv; rw [nv_dig, HGM.out]; rfl
      have hr3 := HR2.out
      rw [e, HM0.out.1, HM0.out.2] at hr3
      have h1 := HS.out
      exact ⟨two_stores (below_next (below_next (below_next HB.out HBW.out) HB1.out) HB2.out) (by omega), _, rfl, ZC.stored (m := W.heap.size) hr3 (by omega) (by omega)⟩
    · have hpos : 0 < (dig gk).length := by have := mt (dig_len_zero gk).1 hz; omega
      have hnd : nv (dig gk) = gk := nv_dig gk
      have hd := div_calls (fun _ _ => True) _ _ _ _ _ _ (dig m) (dig gk) _ HRM.out HRN.out lm ln (by rw [hnd]; omega) (trimmed_dig _)
      rw [hnd, nv_dig] at hd
      have HD := Lib.hid hd
      clear hnd hd hj
      go_wp2_with fail
      refine HD.out.mono ?_
      rintro e w1 ⟨A1, c1, A2, c2, rfl, hr1, hr2, hb1⟩
      have hs1 := hr1.small
      have HR1 := Lib.hid hr1
      have HR2 := Lib.hid hr2
      have HB1 := Lib.hid hb1
      have hml : (dig (m % gk)).length ≤ 500000000 := Nat.le_trans (dig_mono (Nat.le_of_lt (Nat.mod_lt _ (by omega)))) ln
      have HML := Lib.hid hml
      clear hr1 hr2 hb1 hml
      go_wp2
      go_roundg (m % gk)
      case measure => exact Nat.mod_lt _ (by omega)
      case rel => exact ⟨gk, An, A2, cn, c2, rfl, rfl, by unfold Hid; rw [← HG.out, Nat.gcd_comm m gk, Nat.gcd_rec gk m, Nat.gcd_comm], ln, HML.out, HRN.out.below HB1.out, HR2.out.mono (fun _ _ _ => trivial), below_next HBW.out HB1.out⟩
#print axioms zgcd_calls
end Go.Proofs.YtlaemhigmgmgjaaGreat
/- whole: DivMod of what divides: what it returns. No condition beyond sizes. -/
namespace Go.Proofs.YtlaemhigmgmgjaaGreat
set_option linter.unusedVariables false
set_option linter.unusedSimpArgs false
open Go.RowKit

theorem four_boxes (w : World) (o p q r : Obj) : ∃ W, (((w.alloc o).alloc p).alloc q).alloc r = W ∧ W.heap[w.heap.size]? = some o ∧ W.heap[w.heap.size + 1]? = some p ∧ W.heap[w.heap.size + 1 + 1]? = some q ∧ W.heap[w.heap.size + 1 + 1 + 1]? = some r ∧ Below w.heap.size w W ∧ W.heap.size = w.heap.size + 4 :=
  ⟨_, rfl, alloc_elder (alloc_elder (alloc_elder (alloc_last rfl))), alloc_elder (alloc_elder (alloc_last (by simp))), alloc_elder (alloc_last (by simp)), alloc_last (by simp), below_next (below_alloc2 _ _ _) (below_alloc2 _ _ _), by simp⟩

theorem zv_ediv (ga gb : Bool) {a b l : List Nat} (hb : 0 < nv b) (hd : nv b ∣ nv a) (h : nv l = nv a / nv b) : zv (!(ga == gb)) l = zv ga a / zv gb b := by
  obtain ⟨q, hq⟩ := hd
  have e : nv l = q := by rw [h, hq, Nat.mul_div_cancel_left _ hb]
  unfold zv
  rw [e, hq]
  have hb' : (nv b : Int) ≠ 0 := by omega
  have hb2 : -(nv b : Int) ≠ 0 := by omega
  have e1 : ((nv b * q : Nat) : Int) = (nv b : Int) * q := Int.natCast_mul _ _
  rw [e1]
  have d1 : ((nv b : Int) * q) / (nv b : Int) = q := Int.mul_ediv_cancel_left _ hb'
  have d2 : ((nv b : Int) * -(q : Int)) / (nv b : Int) = -(q : Int) := Int.mul_ediv_cancel_left _ hb'
  cases ga <;> cases gb <;> simp [d1, d2, Int.ediv_neg, Int.neg_mul_eq_mul_neg]

set_option maxRecDepth 100000 in
set_option maxHeartbeats 2000000 in
theorem zdiv_calls (u v : Value) (x y : Int) (k : Nat) (w : World) (hu : ZIn (fun _ _ => True) w u x k) (hv : ZIn (fun _ _ => True) w v y k) (hk : k ≤ 500000000) (hy : y ≠ 0) (hd : y ∣ x) :
    Calls Tryz.prog 92 #[u, v] w fun e w' => Below w.heap.size w w' ∧ ∃ r s, e = .returned (.tuple #[r, s, .int .i64 0]) ∧ ZC w.heap.size w' r (x / y) ∧ ZC w.heap.size w' s 0 := by
  obtain ⟨ga, Aa, ca, a, rfl, ra, rfl, la⟩ := hu
  obtain ⟨gb, Ab, cb, b, rfl, rb, rfl, lb⟩ := hv
  have hb0 : 0 < nv b := by
    rcases Nat.eq_zero_or_pos (nv b) with h | h
    · exact absurd (by unfold zv; rw [h]; cases gb <;> rfl) hy
    · exact h
  have hd' : nv b ∣ nv a := by
    have h1 : nv a = (zv ga a).natAbs := by unfold zv; cases ga <;> simp
    have h2 : nv b = (zv gb b).natAbs := by unfold zv; cases gb <;> simp
    rw [h1, h2]
    exact Int.natAbs_dvd_natAbs.2 hd
  obtain ⟨W, hW, g0, g1, g2, g3, hB, hs⟩ := four_boxes w (.cells #[.bool ga, .slice Aa a.length ca] 42) (.cells #[.bool gb, .slice Ab b.length cb] 42) (.cells #[.bool false, .slice none 0 0] 42) (.cells #[.bool false, .slice none 0 0] 42)
  have hra := (ra.below hB).drew
  have hrb := (rb.below hB).drew
  have lta := Nat.le_trans (tr_length a) la
  have ltb := Nat.le_trans (tr_length b) lb
  have hta := hra.trim
  have htb := hrb.trim
  have HTA := Lib.hid hta
  have HTB := Lib.hid htb
  have hbl : 0 < (tr b).length := by have := mt (tr_nil_iff b rb.wf).1 (by omega); omega
  have c0 : W.cell? ⟨w.heap.size, 0, none⟩ = some (.bool ga) := hcell g0 0 rfl
  have c1 : W.cell? ⟨w.heap.size, 1, none⟩ = some (.slice Aa a.length ca) := hcell g0 1 rfl
  have c2 : W.cell? ⟨w.heap.size + 1, 0, none⟩ = some (.bool gb) := hcell g1 0 rfl
  have c3 : W.cell? ⟨w.heap.size + 1, 1, none⟩ = some (.slice Ab b.length cb) := hcell g1 1 rfl
  have G2 := Lib.hid g2
  have G3 := Lib.hid g3
  have HS := Lib.hid hs
  have HB := Lib.hid hB
  have HBD := Lib.hid (And.intro hb0 hd')
  clear g0 g1 g2 g3 hs hB ra rb hta htb hb0 hd' hy hd
  go_enter Tryz.func92, Tryz.ntmps92
  go_wp2_with fail
  clear hW
  go_region_held3 (fun w' => w'.cell? ⟨w.heap.size, 1, none⟩ = some (.slice Aa a.length ca) ∧ w'.cell? ⟨w.heap.size + 1, 1, none⟩ = some (.slice Ab b.length cb)) (go_keep)
    (first
      | (go_at_call 68; refine (trim_calls (fun _ _ => True) _ _ _ _ _ (by first | exact hra | exact hrb)).mono ?_; rintro e w1 ⟨rfl, rfl⟩))
  clear hra hrb c1 c3
  rename_i hh
  clear hh
  have hne : (((tr b).length : Int) == 0) = false := by rw [beq_eq_false_iff_ne]; omega
  go_wp2_with fail
  refine (div_calls (fun _ _ => True) _ _ _ _ _ _ (tr a) (tr b) _ HTA.out HTB.out (by omega) (by omega) (by rw [nv_tr]; exact HBD.out.1) (tr_tr _)).mono ?_
  rintro e w1 ⟨A1, p1, A2, p2, rfl, hr1, hr2, hb1⟩
  rw [nv_tr, nv_tr] at hr1 hr2 ⊢
  have e0 : nv a % nv b = 0 := Nat.mod_eq_zero_of_dvd HBD.out.2
  rw [e0, dig_zero] at hr2 ⊢
  obtain ⟨q, hq⟩ : ∃ q, q = nv a / nv b := ⟨_, rfl⟩
  rw [← hq] at hr1 ⊢
  have hs1 := hr1.small
  have c0' := cell_below hb1 (show W.drew.cell? ⟨w.heap.size, 0, none⟩ = _ from c0)
  have c2' := cell_below hb1 (show W.drew.cell? ⟨w.heap.size + 1, 0, none⟩ = _ from c2)
  have HR1 := Lib.hid hr1
  have HR2 := Lib.hid hr2
  have HB1 := Lib.hid hb1
  have HQ := Lib.hid hq
  clear hr1 hr2 hb1 e0 hq hne c0 c2
  obtain ⟨gA, hga⟩ : ∃ gA, gA = ga := ⟨_, rfl⟩
  obtain ⟨gB, hgb⟩ : ∃ gB, gB = gb := ⟨_, rfl⟩
  have HGA := Lib.hid hga
  have HGB := Lib.hid hgb
  have ht := trimmed_dig q
  have HT := Lib.hid ht
  clear hga hgb ht
  cases ga <;> cases gb
  all_goals
    go_wp2_with fail
    refine (made_calls _ _ _ _ _ _ _ HR1.out).mono ?_
    rintro e w2 ⟨hb2, hr3, rfl⟩
    rw [HT.out] at hr3 ⊢
    have HB2 := Lib.hid hb2
    have HR3 := Lib.hid hr3
    have hr2' := HR2.out.below hb2
    clear hb2 hr3
    go_wp2_with fail
    refine (made_calls _ _ _ _ _ _ _ hr2').mono ?_
    rintro e w3 ⟨hb3, hr4, rfl⟩
    rw [tr_nil] at hr4 ⊢
    have d1 := heap_below hb3 (heap_below HB2.out (heap_below HB1.out (heap_drew G2.out)))
    have d2 := heap_below hb3 (heap_below HB2.out (heap_below HB1.out (heap_drew G3.out)))
    have k2 : w3.cell? ⟨w.heap.size + 1 + 1, 0, none⟩ = some (.bool false) := hcell d1 0 rfl
    have k3 : w3.cell? ⟨w.heap.size + 1 + 1, 1, none⟩ = some (.slice none 0 0) := hcell d1 1 rfl
    have k4 : w3.cell? ⟨w.heap.size + 1 + 1 + 1, 0, none⟩ = some (.bool false) := hcell d2 0 rfl
    have k5 : w3.cell? ⟨w.heap.size + 1 + 1 + 1, 1, none⟩ = some (.slice none 0 0) := hcell d2 1 rfl
    have f2 := hfree d1 0
    have f3 := hfree d1 1
    have f4 := hfree d2 0
    have f5 := hfree d2 1
    have HB3 := Lib.hid hb3
    have HR4 := Lib.hid hr4
    have hr5 := HR3.out.below hb3
    have HR5 := Lib.hid hr5
    clear hb3 hr4 d1 d2 hr2' hr5
    go_wp2
    refine bodyPost_ret (v := .tuple #[.agg #[.bool (!(gA == gB) && decide (0 < (dig q).length)), .slice A1 (dig q).length p1], .agg #[.bool false, .slice A2 0 p2], .int .i64 0]) (by simp [results, Tryz.results92, go_sem, k2, k3, k4, k5, HGA.out, HGB.out]) rfl ?_
    have h1 := HS.out
    have h2 := HB1.out.size
    have e1 := zv_ediv gA gB (l := dig q) HBD.out.1 HBD.out.2 (by rw [nv_dig]; exact HQ.out)
    have hB := below_next (below_next (below_next (below_drew HB.out) HB1.out) HB2.out) HB3.out
    have hz1 : ZC W.heap.size w3 (.agg #[.bool (!(gA == gB) && decide (0 < (dig q).length)), .slice A1 (dig q).length p1]) (zv gA a / zv gB b) := by
      have := ZC.made (n := W.heap.size) (neg := !(gA == gB)) (l := dig q) (w := w3) (A := A1) (c := p1) (by rw [HT.out]; exact HR5.out) (wf_dig _) e1 (Nat.le_refl _)
      rw [HT.out] at this
      exact this
    rw [HGA.out, HGB.out] at hz1
    rw [HGA.out, HGB.out]
    refine ⟨two_stores (two_stores hB (by omega)) (by omega), _, _, rfl, (hz1.stored (n := W.heap.size) (Nat.le_refl _) (by omega)).stored (by omega) (by omega), ?_⟩
    exact ZC.stored (n := w.heap.size) (m := W.heap.size) (ZC.stored (m := W.heap.size) ⟨A2, p2, by rw [show (0 : Int).natAbs = 0 from rfl, dig_zero]; rfl, by rw [show (0 : Int).natAbs = 0 from rfl, dig_zero]; exact HR4.out⟩ (Nat.le_refl _) (by omega)) (by omega) (by omega)
#print axioms zdiv_calls
end Go.Proofs.YtlaemhigmgmgjaaGreat
/- frac: of: what it returns. No condition beyond sizes. -/
namespace Go.Proofs.YtlaemhigmgmgjaaGreat
set_option linter.unusedVariables false
set_option linter.unusedSimpArgs false
open Go.RowKit
variable {α : Type}

/-- Two integers in memory, side by side. -/
def QQ (ok : Nat → Option Obj → Prop) (w : World) (v : Value) (x y : Int) (k : Nat) : Prop := ∃ (g1 : Bool) (A1 : Option Addr) (c1 : Nat) (l1 : List Nat) (g2 : Bool) (A2 : Option Addr) (c2 : Nat) (l2 : List Nat), v = .agg #[.bool g1, .slice A1 l1.length c1, .bool g2, .slice A2 l2.length c2] ∧ Row Kd.u32 ok w (.slice A1 l1.length c1) l1 ∧ Row Kd.u32 ok w (.slice A2 l2.length c2) l2 ∧ zv g1 l1 = x ∧ zv g2 l2 = y ∧ l1.length ≤ k ∧ l2.length ≤ k
section
variable {ok ok' : Nat → Option Obj → Prop} {w w' : World} {v : Value} {x y : Int} {k m : Nat}
theorem QQ.mono (h : QQ ok w v x y k) (ho : ∀ k o, ok k o → ok' k o) : QQ ok' w v x y k := by
  obtain ⟨g1, A1, c1, l1, g2, A2, c2, l2, h0, h1, h2, h3⟩ := h
  exact ⟨g1, A1, c1, l1, g2, A2, c2, l2, h0, h1.mono ho, h2.mono ho, h3⟩
theorem QQ.any (h : QQ ok w v x y k) : QQ (fun _ _ => True) w v x y k := h.mono fun _ _ _ => trivial
theorem QQ.below (h : QQ ok w v x y k) (hb : Below w.heap.size w w') : QQ ok w' v x y k := by
  obtain ⟨g1, A1, c1, l1, g2, A2, c2, l2, h0, h1, h2, h3⟩ := h
  exact ⟨g1, A1, c1, l1, g2, A2, c2, l2, h0, h1.below hb, h2.below hb, h3⟩
theorem QQ.le (h : QQ ok w v x y k) (hk : k ≤ m) : QQ ok w v x y m := by
  obtain ⟨g1, A1, c1, l1, g2, A2, c2, l2, h0, h1, h2, h3, h4, h5, h6⟩ := h
  exact ⟨g1, A1, c1, l1, g2, A2, c2, l2, h0, h1, h2, h3, h4, Nat.le_trans h5 hk, Nat.le_trans h6 hk⟩
/-- Of two integers. -/
theorem QQ.of {a b : Array Value} (h1 : ZIn ok w (.agg a) x k) (h2 : ZIn ok w (.agg b) y k) (hv : v = .agg (a ++ b)) : QQ ok w v x y k := by
  obtain ⟨g1, A1, c1, l1, e1, r1, z1, k1⟩ := h1
  obtain ⟨g2, A2, c2, l2, e2, r2, z2, k2⟩ := h2
  simp only [Value.agg.injEq] at e1 e2
  subst e1 e2
  exact ⟨g1, A1, c1, l1, g2, A2, c2, l2, hv, r1, r2, z1, z2, k1, k2⟩
theorem QQ.num {g1 g2 : Bool} {s1 s2 : Value} (h : QQ ok w (.agg #[.bool g1, s1, .bool g2, s2]) x y k) : ZIn ok w (.agg #[.bool g1, s1]) x k ∧ ZIn ok w (.agg #[.bool g2, s2]) y k := by
  obtain ⟨g1, A1, c1, l1, g2, A2, c2, l2, h0, h1, h2, h3, h4, h5, h6⟩ := h
  simp only [Value.agg.injEq, Array.mk.injEq, List.cons.injEq, Value.bool.injEq, and_true] at h0
  obtain ⟨rfl, rfl, rfl, rfl⟩ := h0
  exact ⟨⟨_, _, _, _, rfl, h1, h3, h5⟩, ⟨_, _, _, _, rfl, h2, h4, h6⟩⟩
end
/-- The value of a fraction; a denominator that is not there says 1. -/
def fv (x y : Int) : Rat := if y = 0 then (x : Rat) else Rat.divInt x y
theorem divInt_one (x : Int) : Rat.divInt x 1 = (x : Rat) := by
  have := Rat.num_divInt_den (x : Rat)
  simpa using this
theorem dig_one : dig 1 = [1] := by rw [dig_pos (by decide)]; simp [dig_zero]
/-- Four cells, written. -/
theorem row_four {ok : Nat → Option Obj → Prop} {K : Kd α} {w : World} {v x y z t : Value} {l : List α} {n0 : Nat} (h : Row K ok w v l) (hn : ∀ o, ¬ ok n0 o) : Row K ok ((((w.setCell ⟨n0, 0, none⟩ x).setCell ⟨n0, 1, none⟩ y).setCell ⟨n0, 2, none⟩ z).setCell ⟨n0, 3, none⟩ t) v l := by
  have H : ∀ i : Nat, ∀ k o, ok k o → k ≠ (⟨n0, i, none⟩ : Addr).block := fun i k o hk e => hn o (by have e' : k = n0 := e; rw [← e']; exact hk)
  exact (((h.set (H 0)).set (H 1)).set (H 2)).set (H 3)
theorem far4 {w : World} {x y z t : Value} {n0 b o : Nat} (h : ¬ n0 = b) : ((((w.setCell ⟨n0, 0, none⟩ x).setCell ⟨n0, 1, none⟩ y).setCell ⟨n0, 2, none⟩ z).setCell ⟨n0, 3, none⟩ t).cell? ⟨b, o, none⟩ = w.cell? ⟨b, o, none⟩ :=
  (World.cell?_setCell_far _ _ _ _ h).trans ((World.cell?_setCell_far _ _ _ _ h).trans ((World.cell?_setCell_far _ _ _ _ h).trans (World.cell?_setCell_far _ _ _ _ h)))
theorem zv_natAbs (g : Bool) (l : List Nat) : (zv g l).natAbs = nv l := by unfold zv; cases g <;> simp
theorem dig_nv_le {l : List Nat} (h : WF l) : (dig (nv l)).length ≤ l.length := by rw [← tr_eq_dig h]; exact tr_length l
/-- All blocks but one. -/
def But (n0 : Nat) (k : Nat) (_ : Option Obj) : Prop := k ≠ n0
theorem Row.but {ok : Nat → Option Obj → Prop} {K : Kd α} {w w0 : World} {v : Value} {l : List α} {n0 : Nat} (h : Row K ok w0 v l) (hb : Below w0.heap.size w0 w) (hn : w0.heap.size ≤ n0) : Row K (But n0) w v l :=
  (h.live.mono (fun k o hk => (show k ≠ n0 from by have := hk.2.1; omega))).below hb
theorem Row.held {ok : Nat → Option Obj → Prop} {K : Kd α} {w w0 : World} {v : Value} {l : List α} (h : Row K ok w0 v l) (hb : Below w0.heap.size w0 w) : Row K (fun k o => ok k o ∧ k < w0.heap.size) w v l :=
  (h.live.mono (fun _ _ hk => ⟨hk.1, hk.2.1⟩)).below hb
theorem Row.newbut {K : Kd α} {w : World} {v : Value} {l : List α} {n m : Nat} (h : Row K (New m) w v l) (hn : n < m) : Row K (But n) w v l := h.mono (fun k o hk => (show k ≠ n from by have := hk.1; omega))

set_option maxRecDepth 100000 in
set_option maxHeartbeats 2000000 in
theorem of_calls_at (ok : Nat → Option Obj → Prop) (u : Value) (x y : Int) (k : Nat) (w : World) (hu : QQ ok w u x y k) (hk : k ≤ 500000000) (hk1 : 1 ≤ k) :
    Calls Tryz.prog 53 #[u] w fun e w' => Below w.heap.size w w' ∧ ∃ r N D, e = .returned r ∧ QQ (fun b o => ok b o ∧ b < w.heap.size ∨ w.heap.size ≤ b) w' r N D k ∧ 0 < D ∧ Rat.divInt N D = fv x y := by
  obtain ⟨g1, A1, c1, l1, g2, A2, c2, l2, rfl, r1, r2, rfl, rfl, le1, le2⟩ := hu
  obtain ⟨W, hW, g0, g3, hB, hs⟩ := two_boxes w (.cells #[.bool g1, .slice A1 l1.length c1, .bool g2, .slice A2 l2.length c2] 44) (.cells #[.bool false, .slice none 0 0, .bool false, .slice none 0 0] 88)
  have d0 : W.cell? ⟨w.heap.size, 0, none⟩ = some (.bool g1) := hcell g0 0 rfl
  have d1 : W.cell? ⟨w.heap.size, 1, none⟩ = some (.slice A1 l1.length c1) := hcell g0 1 rfl
  have d2 : W.cell? ⟨w.heap.size, 2, none⟩ = some (.bool g2) := hcell g0 2 rfl
  have d3 : W.cell? ⟨w.heap.size, 3, none⟩ = some (.slice A2 l2.length c2) := hcell g0 3 rfl
  have hr1 := r1.below hB
  have hr2 := r2.below hB
  have HR1 := Lib.hid hr1
  have HR2 := Lib.hid hr2
  have G0 := Lib.hid g0
  have G3 := Lib.hid g3
  have HS := Lib.hid hs
  have HB := Lib.hid hB
  clear g0 g3 hs hB hr1 hr2
  go_enter Tryz.func53, Tryz.ntmps53
  go_wp2_with fail
  clear hW
  refine (wsign_calls _ _ _ _ _ _ _ HR2.out).mono ?_
  rintro e w1 ⟨hb1, rfl⟩
  have b1 := r1.held (below_next HB.out hb1)
  have b2 := r2.held (below_next HB.out hb1)
  have B1 := Lib.hid b1
  have B2 := Lib.hid b2
  have HB1 := Lib.hid (below_next HB.out hb1)
  have hg3 := heap_below hb1 G3.out
  have hg0 := heap_below hb1 G0.out
  have d0 : w1.cell? ⟨w.heap.size, 0, none⟩ = some (.bool g1) := hcell hg0 0 rfl
  have d1 : w1.cell? ⟨w.heap.size, 1, none⟩ = some (.slice A1 l1.length c1) := hcell hg0 1 rfl
  have d2 : w1.cell? ⟨w.heap.size, 2, none⟩ = some (.bool g2) := hcell hg0 2 rfl
  have d3 : w1.cell? ⟨w.heap.size, 3, none⟩ = some (.slice A2 l2.length c2) := hcell hg0 3 rfl
  have n1 : ¬ (w.heap.size + 1 = w.heap.size) := by omega
  have HG3 := Lib.hid hg3
  have hs1 := hb1.size
  have HSZ : Hid (w.heap.size + 2 ≤ w1.heap.size) := by have := HS.out; unfold Hid; omega
  clear hb1 b1 b2 hg3 hg0 G3 G0 r1 r2 HR1 HR2 hs1
  rcases Int.lt_trichotomy (zv g2 l2) 0 with hz | hz | hz
  · rw [Int.sign_eq_neg_one_of_neg hz]
    have HZ := Lib.hid hz
    clear hz
    go_wp2_with fail
    go_region_held3 (fun w' => w'.cell? ⟨w.heap.size, 0, none⟩ = some (.bool g1) ∧ w'.cell? ⟨w.heap.size, 1, none⟩ = some (.slice A1 l1.length c1) ∧ w'.cell? ⟨w.heap.size, 2, none⟩ = some (.bool g2) ∧ w'.cell? ⟨w.heap.size, 3, none⟩ = some (.slice A2 l2.length c2)) (first | exact ⟨k0, k1, k2, k3⟩ | go_keep | exact ⟨(far4 n1).trans k0, (far4 n1).trans k1, (far4 n1).trans k2, (far4 n1).trans k3⟩)
      (first
        | (go_at_call 75; refine (neg_calls _ _ _ _ _ _ _ (by exact B1.out.drew) (by omega)).mono ?_; rintro e wa ⟨hba, va, rfl, Na, pa, rfl, ra⟩; have k0 := cell_below hba d0; have k1 := cell_below hba d1; have k2 := cell_below hba d2; have k3 := cell_below hba d3; have HBA := Lib.hid hba; have RA := Lib.hid ra; have hsa := ra.small; clear hba ra)
        | (go_at_call 75; refine (neg_calls _ _ _ _ _ _ _ (by exact B2.out.drew.below HBA.out) (by omega)).mono ?_; rintro e wb ⟨hbb, vb, rfl, Nb, pb, rfl, rb⟩; have k0 := cell_below hbb k0; have k1 := cell_below hbb k1; have k2 := cell_below hbb k2; have k3 := cell_below hbb k3; have hg3 := heap_below hbb (heap_below HBA.out (heap_drew HG3.out)); have k4 : wb.cell? ⟨w.heap.size + 1, 0, none⟩ = some (.bool false) := hcell hg3 0 rfl; have k5 : wb.cell? ⟨w.heap.size + 1, 1, none⟩ = some (.slice none 0 0) := hcell hg3 1 rfl; have k6 : wb.cell? ⟨w.heap.size + 1, 2, none⟩ = some (.bool false) := hcell hg3 2 rfl; have k7 : wb.cell? ⟨w.heap.size + 1, 3, none⟩ = some (.slice none 0 0) := hcell hg3 3 rfl; have f0 := hfree hg3 0; have f1 := hfree hg3 1; have f2 := hfree hg3 2; have f3 := hfree hg3 3; have HBB := Lib.hid hbb; have RB := Lib.hid rb; have hsb := rb.small; clear hbb rb hg3))
    go_wp2
    refine bodyPost_ret (v := .agg #[.bool (decide (-(zv g1 l1) < 0)), .slice Na (dig (-(zv g1 l1)).natAbs).length pa, .bool (decide (-(zv g2 l2) < 0)), .slice Nb (dig (-(zv g2 l2)).natAbs).length pb]) (by simp [results, Tryz.results53, go_sem, k4, k5, k6, k7]) rfl ?_
    have hBA := below_next (below_drew HB1.out) HBA.out
    have h1 := HSZ.out
    have h2 := HBA.out.size
    have h3 : w1.heap.size ≤ wa.heap.size := h2
    refine ⟨four_stores (below_next hBA HBB.out) (by omega), _, -(zv g1 l1), -(zv g2 l2), rfl, ⟨_, Na, pa, _, _, Nb, pb, _, rfl, ((RA.out.below HBB.out).four (by show _ < w1.heap.size; omega)).mono (fun b o hb => .inr (Nat.le_trans (by omega) (show w1.heap.size ≤ b from hb.1))), (RB.out.four (by omega)).mono (fun b o hb => .inr (by have := hb.1; omega)), zv_dig _, zv_dig _, ?_, ?_⟩, by have := HZ.out; omega, ?_⟩
    · rw [Int.natAbs_neg, zv_natAbs]; exact Nat.le_trans (dig_nv_le (B1.out.wf)) le1
    · rw [Int.natAbs_neg, zv_natAbs]; exact Nat.le_trans (dig_nv_le (B2.out.wf)) le2
    · unfold fv
      rw [if_neg (by have := HZ.out; omega), Rat.neg_divInt_neg]
  · rw [hz]
    have HZ := Lib.hid hz
    clear hz
    go_wp2_with fail
    go_region_held3 (fun w' => w'.cell? ⟨w.heap.size, 0, none⟩ = some (.bool g1) ∧ w'.cell? ⟨w.heap.size, 1, none⟩ = some (.slice A1 l1.length c1)) (first | exact ⟨k0, k1⟩ | go_keep | exact ⟨(far4 n1).trans k0, (far4 n1).trans k1⟩)
      (first
        | (go_at_call 51; refine (fromInt64_calls _ _ ⟨by decide, by decide⟩).mono ?_; rintro e wa ⟨hba, Na, pa, rfl, ra⟩; have k0 := cell_below hba d0; have k1 := cell_below hba d1; have hg3 := heap_below hba (heap_drew HG3.out); have k4 : wa.cell? ⟨w.heap.size + 1, 0, none⟩ = some (.bool false) := hcell hg3 0 rfl; have k5 : wa.cell? ⟨w.heap.size + 1, 1, none⟩ = some (.slice none 0 0) := hcell hg3 1 rfl; have k6 : wa.cell? ⟨w.heap.size + 1, 2, none⟩ = some (.bool false) := hcell hg3 2 rfl; have k7 : wa.cell? ⟨w.heap.size + 1, 3, none⟩ = some (.slice none 0 0) := hcell hg3 3 rfl; have f0 := hfree hg3 0; have f1 := hfree hg3 1; have f2 := hfree hg3 2; have f3 := hfree hg3 3; have HBA := Lib.hid hba; have RA := Lib.hid ra; have hsa := ra.small; clear hba ra hg3))
    go_wp2
    refine bodyPost_ret (v := .agg #[.bool g1, .slice A1 l1.length c1, .bool (decide ((1 : Int) < 0)), .slice Na (dig (1 : Int).natAbs).length pa]) (by simp [results, Tryz.results53, go_sem, k4, k5, k6, k7]) rfl ?_
    have hBA := below_next (below_drew HB1.out) HBA.out
    have h1 := HSZ.out
    refine ⟨four_stores hBA (by omega), _, zv g1 l1, 1, rfl, ⟨_, A1, c1, _, _, Na, pa, _, rfl, (row_four (B1.out.drew.below HBA.out) (fun _ h => by have := h.2; omega)).mono (fun _ _ h => .inl h), (RA.out.four (by show _ < w1.heap.size; omega)).mono (fun b o hb => .inr (Nat.le_trans (by omega) (show w1.heap.size ≤ b from hb.1))), rfl, zv_dig _, le1, ?_⟩, by decide, ?_⟩
    · rw [show (1 : Int).natAbs = 1 from rfl, dig_one]; exact hk1
    · unfold fv
      rw [if_pos HZ.out, divInt_one]
  · rw [Int.sign_eq_one_of_pos hz]
    have HZ := Lib.hid hz
    have hg3 := HG3.out
    have k0 : w1.cell? ⟨w.heap.size + 1, 0, none⟩ = some (.bool false) := hcell hg3 0 rfl
    have k1 : w1.cell? ⟨w.heap.size + 1, 1, none⟩ = some (.slice none 0 0) := hcell hg3 1 rfl
    have k2 : w1.cell? ⟨w.heap.size + 1, 2, none⟩ = some (.bool false) := hcell hg3 2 rfl
    have k3 : w1.cell? ⟨w.heap.size + 1, 3, none⟩ = some (.slice none 0 0) := hcell hg3 3 rfl
    have f0 := hfree hg3 0
    have f1 := hfree hg3 1
    have f2 := hfree hg3 2
    have f3 := hfree hg3 3
    clear hz hg3
    go_wp2
    refine bodyPost_ret (v := .agg #[.bool g1, .slice A1 l1.length c1, .bool g2, .slice A2 l2.length c2]) (by simp [results, Tryz.results53, go_sem, k0, k1, k2, k3]) rfl ?_
    refine ⟨four_stores HB1.out (by omega), _, zv g1 l1, zv g2 l2, rfl, ⟨g1, A1, c1, l1, g2, A2, c2, l2, rfl, (row_four B1.out (fun _ h => by have := h.2; omega)).mono (fun _ _ h => .inl h), (row_four B2.out (fun _ h => by have := h.2; omega)).mono (fun _ _ h => .inl h), rfl, rfl, le1, le2⟩, HZ.out, ?_⟩
    unfold fv
    rw [if_neg (by have := HZ.out; omega)]
theorem of_calls (u : Value) (x y : Int) (k : Nat) (w : World) (hu : QQ (fun _ _ => True) w u x y k) (hk : k ≤ 500000000) (hk1 : 1 ≤ k) :
    Calls Tryz.prog 53 #[u] w fun e w' => Below w.heap.size w w' ∧ ∃ r N D, e = .returned r ∧ QQ (fun _ _ => True) w' r N D k ∧ 0 < D ∧ Rat.divInt N D = fv x y :=
  (of_calls_at _ u x y k w hu hk hk1).mono fun _ _ ⟨h1, r, N, D, h2, h3, h4⟩ => ⟨h1, r, N, D, h2, h3.any, h4⟩
/-- Four cells of a block that it does not lead to. -/
theorem QQ.four {ok : Nat → Option Obj → Prop} {w : World} {v a b c d : Value} {x y : Int} {k n0 : Nat} (h : QQ ok w v x y k) (hn : ∀ o, ¬ ok n0 o) : QQ ok ((((w.setCell ⟨n0, 0, none⟩ a).setCell ⟨n0, 1, none⟩ b).setCell ⟨n0, 2, none⟩ c).setCell ⟨n0, 3, none⟩ d) v x y k := by
  obtain ⟨g1, A1, c1, l1, g2, A2, c2, l2, h0, h1, h2, h3⟩ := h
  exact ⟨g1, A1, c1, l1, g2, A2, c2, l2, h0, row_four h1 hn, row_four h2 hn, h3⟩
theorem QQ.held {ok : Nat → Option Obj → Prop} {w : World} {v : Value} {x y : Int} {k : Nat} (h : QQ ok w v x y k) : QQ (fun b o => ok b o ∧ b < w.heap.size) w v x y k := by
  obtain ⟨g1, A1, c1, l1, g2, A2, c2, l2, h0, h1, h2, h3⟩ := h
  exact ⟨g1, A1, c1, l1, g2, A2, c2, l2, h0, h1.held (Below.refl _ _), h2.held (Below.refl _ _), h3⟩
#print axioms of_calls
#print axioms of_calls_at
end Go.Proofs.YtlaemhigmgmgjaaGreat
/- frac: parts.least: what it returns. No condition beyond sizes. -/
namespace Go.Proofs.YtlaemhigmgmgjaaGreat
set_option linter.unusedVariables false
set_option linter.unusedSimpArgs false
open Go.RowKit

/-- A fraction in lowest terms, new. -/
def QC (n : Nat) (w : World) (v : Value) (q : Rat) : Prop := ∃ (A : Option Addr) (c : Nat) (B : Option Addr) (d : Nat), v = .agg #[.bool (decide (q.num < 0)), .slice A (dig q.num.natAbs).length c, .bool false, .slice B (dig (if q.den = 1 then 0 else q.den)).length d] ∧ Row Kd.u32 (New n) w (.slice A (dig q.num.natAbs).length c) (dig q.num.natAbs) ∧ Row Kd.u32 (New n) w (.slice B (dig (if q.den = 1 then 0 else q.den)).length d) (dig (if q.den = 1 then 0 else q.den))
theorem ZC.open {n : Nat} {w : World} {v : Value} {z : Int} (h : ZC n w v z) : ∃ (t : Bool) (A : Option Addr) (m c : Nat), v = .agg #[.bool t, .slice A m c] ∧ Hid (ZC n w (.agg #[.bool t, .slice A m c]) z) := by
  obtain ⟨A, c, rfl, h2⟩ := h
  exact ⟨_, A, _, c, rfl, ⟨A, c, rfl, h2⟩⟩
theorem from_calls (z : Int) (w : World) (hz : I64 z) :
    Calls Tryz.prog 51 #[.int .i64 z] w fun e w' => Below w.heap.size w w' ∧ ∃ r, e = .returned r ∧ ZC w.heap.size w' r z :=
  (fromInt64_calls z w hz).mono fun e w' ⟨hb, A, c, he, hr⟩ => ⟨hb, _, he, A, c, rfl, hr⟩
theorem ZC.parts {n : Nat} {w : World} {t : Bool} {A : Option Addr} {m c : Nat} {z : Int} (h : ZC n w (.agg #[.bool t, .slice A m c]) z) : t = decide (z < 0) ∧ m = (dig z.natAbs).length ∧ Row Kd.u32 (New n) w (.slice A (dig z.natAbs).length c) (dig z.natAbs) := by
  obtain ⟨A', c', h1, h2⟩ := h
  simp only [Value.agg.injEq, Array.mk.injEq, List.cons.injEq, Value.bool.injEq, Value.slice.injEq, and_true] at h1
  obtain ⟨rfl, rfl, rfl, rfl⟩ := h1
  exact ⟨rfl, rfl, h2⟩
theorem QC.of1 {n : Nat} {w : World} {t : Bool} {A : Option Addr} {m c : Nat} {q : Rat} (h : ZC n w (.agg #[.bool t, .slice A m c]) q.num) (hd : q.den = 1) : QC n w (.agg #[.bool t, .slice A m c, .bool false, .slice none 0 0]) q := by
  obtain ⟨rfl, rfl, h2⟩ := h.parts
  unfold QC
  rw [if_pos hd, dig_zero]
  exact ⟨A, c, none, 0, rfl, h2, Row.nil _ _ (fun _ => rfl)⟩
theorem QC.of2 {n : Nat} {w : World} {t s : Bool} {A B : Option Addr} {m c j d : Nat} {q : Rat} (h : ZC n w (.agg #[.bool t, .slice A m c]) q.num) (k : ZC n w (.agg #[.bool s, .slice B j d]) (q.den : Int)) (hd : q.den ≠ 1) : QC n w (.agg #[.bool t, .slice A m c, .bool s, .slice B j d]) q := by
  obtain ⟨rfl, rfl, h2⟩ := h.parts
  obtain ⟨rfl, rfl, h3⟩ := k.parts
  unfold QC
  rw [if_neg hd]
  exact ⟨A, c, B, d, by simp, h2, h3⟩
theorem QC.stored {n m n0 : Nat} {w : World} {v x y z t : Value} {q : Rat} (h : QC m w v q) (hn : n ≤ m) (h0 : n0 < m) : QC n ((((w.setCell ⟨n0, 0, none⟩ x).setCell ⟨n0, 1, none⟩ y).setCell ⟨n0, 2, none⟩ z).setCell ⟨n0, 3, none⟩ t) v q := by
  obtain ⟨A, c, B, d, h1, h2, h3⟩ := h
  exact ⟨A, c, B, d, h1, (h2.four h0).new hn, (h3.four h0).new hn⟩
theorem lowest {N D : Int} (hD : 0 < D) : (Rat.divInt N D).num = N / (Int.gcd N D : Int) ∧ ((Rat.divInt N D).den : Int) = D / (Int.gcd N D : Int) := by
  rw [Rat.num_divInt, Rat.den_divInt, Int.sign_eq_one_of_pos hD, Int.one_mul, if_neg (by omega), Int.gcd_comm]
  refine ⟨rfl, ?_⟩
  rw [Int.natCast_ediv, Int.natAbs_of_nonneg (by omega)]

set_option maxRecDepth 100000 in
set_option maxHeartbeats 2000000 in
theorem least_calls (u : Value) (N D : Int) (k : Nat) (w : World) (hu : QQ (fun _ _ => True) w u N D k) (hk : k ≤ 500000000) (hk1 : 1 ≤ k) (hD : 0 < D) :
    Calls Tryz.prog 74 #[u] w fun e w' => Below w.heap.size w w' ∧ ∃ r, e = .returned r ∧ QC w.heap.size w' r (Rat.divInt N D) := by
  obtain ⟨g1, A1, c1, l1, g2, A2, c2, l2, rfl, r1, r2, hx, hy, le1, le2⟩ := hu
  obtain ⟨W, hW, g0, g3, hB, hs⟩ := two_boxes w (.cells #[.bool g1, .slice A1 l1.length c1, .bool g2, .slice A2 l2.length c2] 88) (.cells #[.bool false, .slice none 0 0, .bool false, .slice none 0 0] 44)
  have d0 : W.cell? ⟨w.heap.size, 0, none⟩ = some (.bool g1) := hcell g0 0 rfl
  have d1 : W.cell? ⟨w.heap.size, 1, none⟩ = some (.slice A1 l1.length c1) := hcell g0 1 rfl
  have d2 : W.cell? ⟨w.heap.size, 2, none⟩ = some (.bool g2) := hcell g0 2 rfl
  have d3 : W.cell? ⟨w.heap.size, 3, none⟩ = some (.slice A2 l2.length c2) := hcell g0 3 rfl
  have hN : ZIn (fun _ _ => True) W (.agg #[.bool g1, .slice A1 l1.length c1]) N k := ⟨_, _, _, _, rfl, r1.below hB, hx, le1⟩
  have hDD : ZIn (fun _ _ => True) W (.agg #[.bool g2, .slice A2 l2.length c2]) D k := ⟨_, _, _, _, rfl, r2.below hB, hy, le2⟩
  have hgpos : 0 < Int.gcd N D := Int.gcd_pos_of_ne_zero_right _ (by omega)
  have hgk : (dig (Int.gcd N D)).length ≤ k := by
    refine Nat.le_trans (dig_mono (Nat.le_of_dvd (by omega) (?_ : Int.gcd N D ∣ D.natAbs))) ?_
    · exact Int.ofNat_dvd_left.1 (Int.gcd_dvd_right ..)
    · rw [← hy, zv_natAbs]; exact Nat.le_trans (dig_nv_le r2.wf) le2
  have g1d : (Int.gcd N D : Int) ∣ N := Int.gcd_dvd_left ..
  have g2d : (Int.gcd N D : Int) ∣ D := Int.gcd_dvd_right ..
  obtain ⟨g, hg⟩ : ∃ g, g = Int.gcd N D := ⟨_, rfl⟩
  rw [← hg] at hgpos hgk g1d g2d
  have HG := Lib.hid hg
  have HGF := Lib.hid (And.intro hgpos (And.intro hgk (And.intro g1d g2d)))
  have HN := Lib.hid hN
  have HD := Lib.hid hDD
  have G0 := Lib.hid g0
  have G3 := Lib.hid g3
  have HS := Lib.hid hs
  have HB := Lib.hid hB
  have hgc := zgcd_calls _ _ _ _ _ _ hN hDD hk
  rw [← hg] at hgc
  have HGC := Lib.hid hgc
  clear g0 g3 hs hB r1 r2 hN hDD hgpos hgk g1d g2d hg hgc hx hy
  go_enter Tryz.func74, Tryz.ntmps74
  go_wp2_with fail
  clear hW
  refine HGC.out.mono ?_
  rintro e w1 ⟨hb1, rg, rfl, zg⟩
  obtain ⟨tg, Ag, mg, cg, rfl, ZG⟩ := zg.open
  obtain ⟨W3, hW3, gg, hB3, hs3⟩ := one_box w1 (.cells #[.bool tg, .slice Ag mg cg] 42)
  have hBg := below_next hb1 hB3
  have ZG3 := Lib.hid ((ZG.out.below hB3).zin (k := k) (by simpa using HGF.out.2.1)).any
  have HBg := Lib.hid hBg
  have GG := Lib.hid gg
  have hg0 := heap_below hBg G0.out
  have d0 : W3.cell? ⟨w.heap.size, 0, none⟩ = some (.bool g1) := hcell hg0 0 rfl
  have d1 : W3.cell? ⟨w.heap.size, 1, none⟩ = some (.slice A1 l1.length c1) := hcell hg0 1 rfl
  have d2 : W3.cell? ⟨w1.heap.size, 0, none⟩ = some (.bool tg) := hcell gg 0 rfl
  have d3 : W3.cell? ⟨w1.heap.size, 1, none⟩ = some (.slice Ag mg cg) := hcell gg 1 rfl
  have HS1 := Lib.hid hb1.size
  have HS3 := Lib.hid hs3
  clear zg ZG gg hBg hg0 hb1 hB3 hs3
  go_wp2_with fail
  clear hW3
  refine (zdiv_calls _ _ _ _ k _ (HN.out.below HBg.out) ZG3.out hk (by have := HGF.out.1; omega) HGF.out.2.2.1).mono ?_
  rintro e w4 ⟨hb4, rn, sn, rfl, zn, zs⟩
  obtain ⟨tn, An, mn, cn, rfl, ZN⟩ := zn.open
  obtain ⟨ts, As, ms, cs, rfl, ZS⟩ := zs.open
  obtain ⟨W5, hW5, gn, gs, hB5, hs5⟩ := two_boxes w4 (.cells #[.bool tn, .slice An mn cn] 42) (.cells #[.bool ts, .slice As ms cs] 42)
  have hB45 := below_next hb4 hB5
  have ZN5 := Lib.hid (ZN.out.below hB5)
  have HB45 := Lib.hid hB45
  have GN := Lib.hid gn
  have hg0 := heap_below (below_next HBg.out hB45) G0.out
  have hgg := heap_below hB45 GG.out
  have d0 : W5.cell? ⟨w.heap.size, 2, none⟩ = some (.bool g2) := hcell hg0 2 rfl
  have d1 : W5.cell? ⟨w.heap.size, 3, none⟩ = some (.slice A2 l2.length c2) := hcell hg0 3 rfl
  have d2 : W5.cell? ⟨w1.heap.size, 0, none⟩ = some (.bool tg) := hcell hgg 0 rfl
  have d3 : W5.cell? ⟨w1.heap.size, 1, none⟩ = some (.slice Ag mg cg) := hcell hgg 1 rfl
  have HS4 := Lib.hid hb4.size
  have HS5 := Lib.hid hs5
  clear zn ZN zs ZS gn gs hB45 hg0 hgg hb4 hB5 hs5
  go_wp2_with fail
  clear hW5
  refine (zdiv_calls _ _ _ _ k _ (HD.out.below (below_next HBg.out HB45.out)) (ZG3.out.below HB45.out) hk (by have := HGF.out.1; omega) HGF.out.2.2.2).mono ?_
  rintro e w6 ⟨hb6, rn, sn, rfl, zn, zs⟩
  obtain ⟨td, Ad, md, cd, rfl, ZD⟩ := zn.open
  obtain ⟨ts, As, ms, cs, rfl, ZS⟩ := zs.open
  obtain ⟨W7, hW7, gd, gs, hB7, hs7⟩ := two_boxes w6 (.cells #[.bool td, .slice Ad md cd] 42) (.cells #[.bool ts, .slice As ms cs] 42)
  have hB67 := below_next hb6 hB7
  have ZD7 := Lib.hid (ZD.out.below hB7)
  have HB67 := Lib.hid hB67
  have GD := Lib.hid gd
  have d0 : W7.cell? ⟨w6.heap.size, 0, none⟩ = some (.bool td) := hcell gd 0 rfl
  have d1 : W7.cell? ⟨w6.heap.size, 1, none⟩ = some (.slice Ad md cd) := hcell gd 1 rfl
  have HS6 := Lib.hid hb6.size
  have HS7 := Lib.hid hs7
  clear zn ZD zs ZS gd gs hB67 hb6 hB7 hs7 d2 d3
  go_wp2_with fail
  clear hW7
  have hdk : (dig (D / (g : Int)).natAbs).length ≤ k := by
    obtain ⟨_, _, _, l, _, hrow, hz, hl⟩ := HD.out
    have h1 : D.natAbs = nv l := by rw [← hz, zv_natAbs]
    have h2 : WF l := hrow.wf
    refine Nat.le_trans (dig_mono (?_ : _ ≤ nv l)) (Nat.le_trans (dig_nv_le h2) hl)
    rw [← h1, Int.natAbs_ediv_of_dvd HGF.out.2.2.2]
    exact Nat.div_le_self _ _
  have HDK := Lib.hid hdk
  clear hdk
  go_region_held3 (fun w' => w'.cell? ⟨w6.heap.size, 0, none⟩ = some (.bool td) ∧ w'.cell? ⟨w6.heap.size, 1, none⟩ = some (.slice Ad md cd)) (first | exact ⟨k0, k1⟩ | go_keep)
    (first
      | (go_at_call 51; refine (from_calls _ _ ⟨by decide, by decide⟩).mono ?_; rintro e w8 ⟨hb8, r1, rfl, z1⟩; obtain ⟨t1, B1, m1, e1, rfl, Z1⟩ := z1.open; have k0 := cell_below hb8 d0; have k1 := cell_below hb8 d1; have HB8 := Lib.hid hb8; clear hb8 z1)
      | (go_at_call 54; refine (zcmp_calls _ _ (D / (g : Int)) 1 k _ (((ZD7.out.below (below_drew (Below.refl _ _))).below HB8.out).zin HDK.out).any (Z1.out.zin (by rw [show (1 : Int).natAbs = 1 from rfl, dig_one]; exact hk1)).any (by omega)).mono ?_; rintro e w9 ⟨hb9, rfl⟩; obtain ⟨sg, hsg⟩ : ∃ sg, sg = (D / (g : Int) - 1).sign := ⟨_, rfl⟩; rw [← hsg]; have HSG := Lib.hid hsg; have k0 := cell_below hb9 k0; have k1 := cell_below hb9 k1; have HB9 := Lib.hid hb9; clear hsg hb9))
  have hB79 : Below W7.heap.size W7 w9 := below_next (below_drew (Below.refl _ _) |>.trans (HB8.out.mono (Nat.le_refl _))) HB9.out
  have hB59 := below_next HB67.out hB79
  have hB39 := below_next HB45.out hB59
  have hg3 := heap_below (below_next HBg.out hB39) G3.out
  have hgn := heap_below hB59 GN.out
  have p0 : w9.cell? ⟨w.heap.size + 1, 0, none⟩ = some (.bool false) := hcell hg3 0 rfl
  have p1 : w9.cell? ⟨w.heap.size + 1, 1, none⟩ = some (.slice none 0 0) := hcell hg3 1 rfl
  have p2 : w9.cell? ⟨w.heap.size + 1, 2, none⟩ = some (.bool false) := hcell hg3 2 rfl
  have p3 : w9.cell? ⟨w.heap.size + 1, 3, none⟩ = some (.slice none 0 0) := hcell hg3 3 rfl
  have f0 := hfree hg3 0
  have f1 := hfree hg3 1
  have f2 := hfree hg3 2
  have f3 := hfree hg3 3
  have q0 : w9.cell? ⟨w4.heap.size, 0, none⟩ = some (.bool tn) := hcell hgn 0 rfl
  have q1 : w9.cell? ⟨w4.heap.size, 1, none⟩ = some (.slice An mn cn) := hcell hgn 1 rfl
  have ZN9 := Lib.hid (ZN5.out.below hB59)
  have ZD9 := Lib.hid (ZD7.out.below hB79)
  have HBF := Lib.hid (below_next HB.out (below_next HBg.out hB39))
  have hlow := lowest (N := N) hD
  rw [← HG.out] at hlow
  have HLOW := Lib.hid hlow
  have HS35 := Lib.hid HB45.out.size
  have HSg := Lib.hid HBg.out.size
  rename_i hh
  clear hh hB79 hB59 hB39 hg3 hgn hlow
  by_cases hsz : sg = 0
  · subst hsz
    go_wp2
    refine bodyPost_ret (v := .agg #[.bool tn, .slice An mn cn, .bool false, .slice none 0 0]) (by simp [results, Tryz.results74, go_sem, p0, p1, p2, p3]) rfl ?_
    have h1 := HS.out
    have h2 : W.heap.size ≤ W3.heap.size := HSg.out
    have hd : (Rat.divInt N D).den = 1 := by
      have e1 := Int.sign_eq_zero_iff_zero.1 HSG.out.symm
      have e2 := HLOW.out.2
      omega
    have hz := ZN9.out
    rw [← HLOW.out.1] at hz
    exact ⟨four_stores HBF.out (by omega), _, rfl, (QC.of1 hz hd).stored (by omega) (by omega)⟩
  · have hsf : (sg == 0) = false := by rw [beq_eq_false_iff_ne]; exact hsz
    go_wp2
    refine bodyPost_ret (v := .agg #[.bool tn, .slice An mn cn, .bool td, .slice Ad md cd]) (by simp [results, Tryz.results74, go_sem, p0, p1, p2, p3]) rfl ?_
    have h1 := HS.out
    have h2 : W.heap.size ≤ W3.heap.size := HSg.out
    have h3 : W3.heap.size ≤ W5.heap.size := HS35.out
    have hd : (Rat.divInt N D).den ≠ 1 := by
      intro e
      have e2 := HLOW.out.2
      refine hsz ?_
      rw [HSG.out, ← e2, e]
      rfl
    have hz := ZN9.out
    rw [← HLOW.out.1] at hz
    have hz2 := ZD9.out
    rw [← HLOW.out.2] at hz2
    exact ⟨four_stores HBF.out (by omega), _, rfl, (QC.of2 hz (hz2.mono h3) hd).stored (by omega) (by omega)⟩
#print axioms least_calls
end Go.Proofs.YtlaemhigmgmgjaaGreat
/- Fractions in memory. -/
namespace Go.Proofs.YtlaemhigmgmgjaaGreat
set_option linter.unusedVariables false
set_option linter.unusedSimpArgs false
open Go.RowKit
theorem QC.open {n : Nat} {w : World} {v : Value} {q : Rat} (h : QC n w v q) : ∃ (t : Bool) (A : Option Addr) (m c : Nat) (s : Bool) (B : Option Addr) (j d : Nat), v = .agg #[.bool t, .slice A m c, .bool s, .slice B j d] ∧ Hid (QC n w (.agg #[.bool t, .slice A m c, .bool s, .slice B j d]) q) := by
  obtain ⟨A, c, B, d, rfl, h1, h2⟩ := h
  exact ⟨_, A, _, c, _, B, _, d, rfl, ⟨A, c, B, d, rfl, h1, h2⟩⟩

/-- A fraction in memory. -/
def QIn (ok : Nat → Option Obj → Prop) (w : World) (v : Value) (q : Rat) (k : Nat) : Prop := ∃ x y, QQ ok w v x y k ∧ fv x y = q
section
variable {ok ok' : Nat → Option Obj → Prop} {w w' : World} {v : Value} {q : Rat} {k m : Nat}
theorem QIn.mono (h : QIn ok w v q k) (ho : ∀ k o, ok k o → ok' k o) : QIn ok' w v q k := by
  obtain ⟨x, y, h1, h2⟩ := h
  exact ⟨x, y, h1.mono ho, h2⟩
theorem QIn.any (h : QIn ok w v q k) : QIn (fun _ _ => True) w v q k := h.mono fun _ _ _ => trivial
theorem QIn.below (h : QIn ok w v q k) (hb : Below w.heap.size w w') : QIn ok w' v q k := by
  obtain ⟨x, y, h1, h2⟩ := h
  exact ⟨x, y, h1.below hb, h2⟩
theorem QIn.le (h : QIn ok w v q k) (hk : k ≤ m) : QIn ok w v q m := by
  obtain ⟨x, y, h1, h2⟩ := h
  exact ⟨x, y, h1.le hk, h2⟩
theorem QIn.drew (h : QIn ok w v q k) : QIn ok w.drew v q k := h.below (below_drew (Below.refl _ _))
end
/-- The words of a fraction. -/
def Fits (q : Rat) (k : Nat) : Prop := (dig q.num.natAbs).length ≤ k ∧ (dig q.den).length ≤ k
theorem fv_num (q : Rat) : fv q.num (if q.den = 1 then 0 else (q.den : Int)) = q := by
  unfold fv
  by_cases h : q.den = 1
  · rw [if_pos h, if_pos rfl]
    have := Rat.num_divInt_den q
    rw [h] at this
    exact (divInt_one q.num).symm.trans this
  · rw [if_neg h, if_neg (by have := q.den_pos; omega)]
    exact Rat.num_divInt_den q
theorem QC.qin {n : Nat} {w : World} {v : Value} {q : Rat} {k : Nat} (h : QC n w v q) (hk : Fits q k) : QIn (New n) w v q k := by
  obtain ⟨A, c, B, d, rfl, h1, h2⟩ := h
  refine ⟨q.num, if q.den = 1 then 0 else (q.den : Int), ⟨_, A, c, _, _, B, d, _, rfl, h1, h2, zv_dig _, ?_, hk.1, ?_⟩, fv_num q⟩
  · unfold zv; rw [nv_dig]
    by_cases h : q.den = 1 <;> simp [h]
  · by_cases h : q.den = 1
    · rw [if_pos h, dig_zero]; exact Nat.zero_le _
    · rw [if_neg h]; exact hk.2
theorem QC.below {n : Nat} {w w' : World} {v : Value} {q : Rat} (h : QC n w v q) (hb : Below w.heap.size w w') : QC n w' v q := by
  obtain ⟨A, c, B, d, rfl, h1, h2⟩ := h
  exact ⟨A, c, B, d, rfl, h1.below hb, h2.below hb⟩
theorem QC.mono {n m : Nat} {w : World} {v : Value} {q : Rat} (h : QC n w v q) (hm : m ≤ n) : QC m w v q := by
  obtain ⟨A, c, B, d, rfl, h1, h2⟩ := h
  exact ⟨A, c, B, d, rfl, h1.new hm, h2.new hm⟩
/-- The zero value. -/
theorem QIn.zero (ok : Nat → Option Obj → Prop) (w : World) (k : Nat) : QIn ok w (.agg #[.bool false, .slice none 0 0, .bool false, .slice none 0 0]) 0 k :=
  ⟨0, 0, ⟨false, none, 0, [], false, none, 0, [], rfl, Row.nil _ _ (fun _ => rfl), Row.nil _ _ (fun _ => rfl), rfl, rfl, Nat.zero_le _, Nat.zero_le _⟩, by unfold fv; rw [if_pos rfl]; rfl⟩
theorem QIn.form {ok : Nat → Option Obj → Prop} {w : World} {v : Value} {q : Rat} {k : Nat} (h : QIn ok w v q k) : ∃ (t : Bool) (A : Option Addr) (m c : Nat) (s : Bool) (B : Option Addr) (j d : Nat), v = .agg #[.bool t, .slice A m c, .bool s, .slice B j d] ∧ Hid (QIn ok w (.agg #[.bool t, .slice A m c, .bool s, .slice B j d]) q k) := by
  have h' := h
  obtain ⟨x, y, ⟨g1, A1, c1, l1, g2, A2, c2, l2, rfl, _⟩, _⟩ := h'
  exact ⟨_, _, _, _, _, _, _, _, rfl, h⟩
/-- How two fractions lie. -/
def cmpQ (p q : Rat) : Int := if p ≤ q then (if q ≤ p then 0 else -1) else 1
theorem divInt_le {N D M E : Int} (hD : 0 < D) (hE : 0 < E) : Rat.divInt N D ≤ Rat.divInt M E ↔ N * E ≤ M * D := by
  rw [Rat.le_iff_sub_nonneg, Rat.divInt_sub_divInt _ _ (Int.ne_of_gt hE) (Int.ne_of_gt hD), Rat.divInt_nonneg_iff_of_pos_right (Int.mul_pos hE hD)]
  omega
theorem cmpQ_sign {N D M E : Int} (hD : 0 < D) (hE : 0 < E) : (N * E - M * D).sign = cmpQ (Rat.divInt N D) (Rat.divInt M E) := by
  unfold cmpQ
  rcases Int.lt_trichotomy (N * E) (M * D) with h | h | h
  · rw [if_pos ((divInt_le hD hE).2 (by omega)), if_neg (fun h' => by have := (divInt_le hE hD).1 h'; omega), Int.sign_eq_neg_one_of_neg (by omega)]
  · rw [if_pos ((divInt_le hD hE).2 (by omega)), if_pos ((divInt_le hE hD).2 (by omega)), h, Int.sub_self]; rfl
  · rw [if_neg (fun h' => by have := (divInt_le hD hE).1 h'; omega), Int.sign_eq_one_of_pos (by omega)]
theorem sign_cmpQ {N D : Int} (hD : 0 < D) : N.sign = cmpQ (Rat.divInt N D) 0 := by
  have := cmpQ_sign (N := N) (M := 0) (E := 1) hD (by decide)
  rw [divInt_one] at this
  simpa using this
theorem QQ.form {ok : Nat → Option Obj → Prop} {w : World} {v : Value} {x y : Int} {k : Nat} (h : QQ ok w v x y k) : ∃ (t : Bool) (A : Option Addr) (m c : Nat) (s : Bool) (B : Option Addr) (j d : Nat), v = .agg #[.bool t, .slice A m c, .bool s, .slice B j d] ∧ Hid (QQ ok w (.agg #[.bool t, .slice A m c, .bool s, .slice B j d]) x y k) := by
  have h' := h
  obtain ⟨g1, A1, c1, l1, g2, A2, c2, l2, rfl, _⟩ := h'
  exact ⟨_, _, _, _, _, _, _, _, rfl, h⟩
end Go.Proofs.YtlaemhigmgmgjaaGreat
/- frac: Canonical, FromInt64, Sign, Cmp: what they return. No condition beyond sizes. (Printed by tools/frac2.py.) -/
namespace Go.Proofs.YtlaemhigmgmgjaaGreat
set_option linter.unusedVariables false
set_option linter.unusedSimpArgs false
open Go.RowKit

set_option maxRecDepth 100000 in
set_option maxHeartbeats 2000000 in
theorem canon_calls (u : Value) (p : Rat) (k : Nat) (w : World) (hu : QIn (fun _ _ => True) w u p k) (hk : k ≤ 500000000) (hk1 : 1 ≤ k) :
    Calls Tryz.prog 52 #[u] w fun e w' => Below w.heap.size w w' ∧ ∃ r, e = .returned r ∧ QC w.heap.size w' r p := by
  obtain ⟨t0, A0, m0, c0, s0, B0, j0, d0, rfl, HU⟩ := hu.form
  obtain ⟨W, hW, g0, g2', hB, hs⟩ := two_boxes w (.cells #[.bool t0, .slice A0 m0 c0, .bool s0, .slice B0 j0 d0] 44) (.cells #[.bool false, .slice none 0 0, .bool false, .slice none 0 0] 44)
  have a0 : W.cell? ⟨w.heap.size, 0, none⟩ = some (.bool t0) := hcell g0 0 rfl
  have a1 : W.cell? ⟨w.heap.size, 1, none⟩ = some (.slice A0 m0 c0) := hcell g0 1 rfl
  have a2 : W.cell? ⟨w.heap.size, 2, none⟩ = some (.bool s0) := hcell g0 2 rfl
  have a3 : W.cell? ⟨w.heap.size, 3, none⟩ = some (.slice B0 j0 d0) := hcell g0 3 rfl
  have G2 := Lib.hid g2'
  have HS := Lib.hid hs
  have HB := Lib.hid hB
  clear g0 g2' hs hB hu
  go_enter Tryz.func52, Tryz.ntmps52
  go_wp2_with fail
  clear hW
  obtain ⟨x, y, hx, hxv⟩ := HU.out.below HB.out
  refine (of_calls _ _ _ k _ hx hk hk1).mono ?_
  rintro e w1 ⟨hb1, r1, N, D, rfl, z1, hD, hND⟩
  rw [hxv] at hND
  have HB1 := Lib.hid hb1
  have HND := Lib.hid hND
  clear hb1 hND hx hxv
  go_wp2_with fail
  refine (least_calls _ _ _ k _ z1 hk hk1 hD).mono ?_
  rintro e w2 ⟨hb2, r, rfl, hr⟩
  rw [HND.out] at hr
  obtain ⟨t4, C4, i4, j4, s4, B4, m4, o4, rfl, Z4⟩ := hr.open
  have HB2 := Lib.hid (below_next HB1.out hb2)
  have HSZ := Lib.hid HB1.out.size
  have hg := heap_below HB2.out G2.out
  have p0 : w2.cell? ⟨w.heap.size + 1, 0, none⟩ = some (.bool false) := hcell hg 0 rfl
  have p1 : w2.cell? ⟨w.heap.size + 1, 1, none⟩ = some (.slice none 0 0) := hcell hg 1 rfl
  have p2 : w2.cell? ⟨w.heap.size + 1, 2, none⟩ = some (.bool false) := hcell hg 2 rfl
  have p3 : w2.cell? ⟨w.heap.size + 1, 3, none⟩ = some (.slice none 0 0) := hcell hg 3 rfl
  have f0 := hfree hg 0
  have f1 := hfree hg 1
  have f2 := hfree hg 2
  have f3 := hfree hg 3
  clear hr hb2 hg z1 hD
  go_wp2
  refine bodyPost_ret (v := .agg #[.bool t4, .slice C4 i4 j4, .bool s4, .slice B4 m4 o4]) (by simp [results, Tryz.results52, go_sem, p0, p1, p2, p3]) rfl ?_
  have h1 := HS.out
  have h2 := HSZ.out
  exact ⟨four_stores (below_next HB.out HB2.out) (by omega), _, rfl, Z4.out.stored (by omega) (by omega)⟩

set_option maxRecDepth 100000 in
set_option maxHeartbeats 2000000 in
theorem ffrom_calls (z : Int) (w : World) (hz : I64 z) :
    Calls Tryz.prog 21 #[.int .i64 z] w fun e w' => Below w.heap.size w w' ∧ ∃ r, e = .returned r ∧ QC w.heap.size w' r (z : Rat) := by
  obtain ⟨W, hW, g2', hB, hs⟩ := one_box w (.cells #[.bool false, .slice none 0 0, .bool false, .slice none 0 0] 44)
  have G2 := Lib.hid g2'
  have HS := Lib.hid hs
  have HB := Lib.hid hB
  clear g2' hs hB
  go_enter Tryz.func21, Tryz.ntmps21
  go_wp2_with fail
  clear hW
  refine (from_calls _ _ hz).mono ?_
  rintro e w1 ⟨hb1, r1, rfl, z1⟩
  obtain ⟨t1, B1, m1, e1, rfl, Z1⟩ := z1.open
  have HB1 := Lib.hid hb1
  have hg := heap_below hb1 G2.out
  have p0 : w1.cell? ⟨w.heap.size, 0, none⟩ = some (.bool false) := hcell hg 0 rfl
  have p1 : w1.cell? ⟨w.heap.size, 1, none⟩ = some (.slice none 0 0) := hcell hg 1 rfl
  have p2 : w1.cell? ⟨w.heap.size, 2, none⟩ = some (.bool false) := hcell hg 2 rfl
  have p3 : w1.cell? ⟨w.heap.size, 3, none⟩ = some (.slice none 0 0) := hcell hg 3 rfl
  have f0 := hfree hg 0
  have f1 := hfree hg 1
  have f2 := hfree hg 2
  have f3 := hfree hg 3
  clear hb1 z1 hg
  go_wp2
  refine bodyPost_ret (v := .agg #[.bool t1, .slice B1 m1 e1, .bool false, .slice none 0 0]) (by simp [results, Tryz.results21, go_sem, p0, p1, p2, p3]) rfl ?_
  have h1 := HS.out
  exact ⟨four_stores (below_next HB.out HB1.out) (by omega), _, rfl, (QC.of1 (q := (z : Rat)) Z1.out rfl).stored (by omega) (by omega)⟩

theorem field_parts (a b c d : Value) (w : World) : (Instr.field 88 (.agg #[a, b, c, d]) 0).run Tryz.prog w = .ok (.agg #[a, b]) w := by
  simp [Instr.field, run_underlying Tryz.underlying88, go_sem, asAgg, Result.andThen, part, isAgg, run_underlying Tryz.underlying42]

set_option maxRecDepth 100000 in
set_option maxHeartbeats 2000000 in
theorem fsign_calls (u : Value) (p : Rat) (k : Nat) (w : World) (hu : QIn (fun _ _ => True) w u p k) (hk : k ≤ 500000000) (hk1 : 1 ≤ k) :
    Calls Tryz.prog 29 #[u] w fun e w' => Below w.heap.size w w' ∧ e = .returned (.int .i64 (cmpQ p 0)) := by
  obtain ⟨t0, A0, m0, c0, s0, B0, j0, d0, rfl, HU⟩ := hu.form
  obtain ⟨W, hW, g0, hB, hs⟩ := one_box w (.cells #[.bool t0, .slice A0 m0 c0, .bool s0, .slice B0 j0 d0] 44)
  have a0 : W.cell? ⟨w.heap.size, 0, none⟩ = some (.bool t0) := hcell g0 0 rfl
  have a1 : W.cell? ⟨w.heap.size, 1, none⟩ = some (.slice A0 m0 c0) := hcell g0 1 rfl
  have a2 : W.cell? ⟨w.heap.size, 2, none⟩ = some (.bool s0) := hcell g0 2 rfl
  have a3 : W.cell? ⟨w.heap.size, 3, none⟩ = some (.slice B0 j0 d0) := hcell g0 3 rfl
  have HS := Lib.hid hs
  have HB := Lib.hid hB
  have hfd := field_parts
  clear g0 hs hB hu
  go_enter Tryz.func29, Tryz.ntmps29
  go_wp2_with fail
  clear hW
  obtain ⟨x, y, hx, hxv⟩ := HU.out.below HB.out
  refine (of_calls _ _ _ k _ hx hk hk1).mono ?_
  rintro e w1 ⟨hb1, r1, N, D, rfl, z1, hD, hND⟩
  rw [hxv] at hND
  obtain ⟨t1, A1, m1, c1, s1, B1, j1, d1, rfl, Z1⟩ := z1.form
  have HB1 := Lib.hid hb1
  have HND := Lib.hid hND
  have HD := Lib.hid hD
  clear hb1 hND hx hxv z1 hD
  go_wp2_with fail
  obtain ⟨g, A, c, l, hv, hr, hl, _⟩ := Z1.out.num.1
  simp only [Value.agg.injEq, Array.mk.injEq, List.cons.injEq, Value.bool.injEq, Value.slice.injEq, and_true] at hv
  obtain ⟨rfl, rfl, rfl, rfl⟩ := hv
  refine (wsign_calls _ _ _ _ _ _ _ hr).mono ?_
  rintro e w2 ⟨hb2, rfl⟩
  rw [hl, sign_cmpQ HD.out, HND.out]
  have HB2 := Lib.hid (below_next HB1.out hb2)
  clear hr hl hb2
  go_wp2
  go_ret
  exact ⟨below_next HB.out HB2.out, rfl⟩
#print axioms fsign_calls
end Go.Proofs.YtlaemhigmgmgjaaGreat
