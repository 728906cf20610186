/- Several texts of my own, joined. No condition beyond what each theorem states. -/
import Derived.Test.YtlaemhigmgmgjaaGreatK11
import Derived.Test.YtlaemhigmgmgjaaGreatK10
import Derived.Test.YtlaemhigmgmgjaaGreatK5
import Derived.Test.YtlaemhigmgmgjaaGreatK6
/- clear: Run: bounds of what it returns. Plain. -/
namespace Go.Proofs.YtlaemhigmgmgjaaGreat
set_option linter.unusedVariables false
set_option linter.unusedSimpArgs false

theorem costI_in : ∀ (c : List (Int × Int)) (y : Int), 0 ≤ y → (∀ s ∈ c, 0 ≤ s.1 ∧ -1000000 ≤ s.2 ∧ s.2 ≤ 1000000) → -1000000 * y ≤ costI c y ∧ costI c y ≤ 1000000 * y
  | [], y, h, _ => by show -1000000 * y ≤ 0 ∧ 0 ≤ 1000000 * y; omega
  | s :: r, y, h, hc => by
    obtain ⟨h0, h1, h2⟩ := hc s (by simp)
    have hm : 0 ≤ min y s.1 ∧ min y s.1 ≤ y := by omega
    have hr := costI_in r (y - min y s.1) (by omega) (fun t ht => hc t (by simp [ht]))
    show -1000000 * y ≤ min y s.1 * s.2 + costI r (y - min y s.1) ∧ min y s.1 * s.2 + costI r (y - min y s.1) ≤ 1000000 * y
    generalize min y s.1 = m at hm hr ⊢
    have a1 : m * s.2 ≤ m * 1000000 := Int.mul_le_mul_of_nonneg_left h2 hm.1
    have a2 : m * (-1000000) ≤ m * s.2 := Int.mul_le_mul_of_nonneg_left h1 hm.1
    omega
theorem stack_in {up : Bool} {L : List Crv} (hv : Valid up L) : ∀ s ∈ pairsS (stackOf up L), 0 ≤ s.1 ∧ -1000000 ≤ s.2 ∧ s.2 ≤ 1000000 := by
  intro s hs
  have h0 := stack_pos hv s hs
  unfold pairsS stackOf at hs
  rw [List.map_map] at hs
  obtain ⟨p, hp, rfl⟩ := List.mem_map.1 hs
  have h1 := prs_in hv hp
  exact ⟨Int.le_of_lt h0, h1.1, h1.2⟩
theorem castL_get {xs : List Int} {i : Nat} (h : i < xs.length) (h2 : i < (castL xs).length) : (castL xs)[i] = ((xs[i] : Int) : Rat) := List.getElem_map _
theorem totC_int : ∀ (c : List (Int × Int)), totC c = ((qtySum c : Int) : Rat)
  | [] => rfl
  | s :: r => by
    rw [totC_cons, totC_int r, qtySum_cons, Rat.intCast_add]
theorem share_bnd {up : Bool} {L : List Crv} (hv : Valid up L) {l : Rat} {q : Int} (s : Side up L l q) : ∀ x ∈ shareXI up L q, 0 ≤ x ∧ x ≤ 3000000 := by
  intro x hx
  obtain ⟨i, hi, rfl⟩ := List.getElem_of_mem hx
  have hl := shareXI_len hv q
  have h2 : i < (castL (shareXI up L q)).length := by rw [castL_len]; exact hi
  have h1 : i < L.length := by omega
  have hb := s.bnd i h1 h2
  rw [castL_get hi h2, totC_int] at hb
  have hin := curveE_in (hv.2 L[i] (List.getElem_mem h1))
  have hq := qtySum_le L[i] hin.2.2 L[i].length (Nat.le_refl _)
  rw [List.take_length] at hq
  have hlen := hin.2.1
  have a : 0 ≤ (shareXI up L q)[i] := by exact_mod_cast hb.1
  have b : (shareXI up L q)[i] ≤ qtySum L[i] := by exact_mod_cast hb.2
  omega
/-- What Run reads off valid offers and bids. -/
structure RunOk (O B : List Crv) : Prop where
  hO : Valid true O
  hB : Valid false B
  v0 : 0 ≤ volP O B
  v1 : volP O B ≤ 18000000
  p0 : -1000000 ≤ priceP O B
  p1 : priceP O B ≤ 1000000
  g0 : volP O B ≤ totalE (stackOf true O)
  t0 : volP O B ≤ totalE (stackOf false B)
  gs : ∀ x ∈ shareXI true O (volP O B), 0 ≤ x ∧ x ≤ 3000000
  ts : ∀ x ∈ shareXI false B (volP O B), 0 ≤ x ∧ x ≤ 3000000
  w0 : -36000000000000 ≤ welP O B
  w1 : welP O B ≤ 36000000000000
  c0 : -18000000000000 ≤ costI (pairsS (stackOf true O)) (volP O B)
  c1 : costI (pairsS (stackOf true O)) (volP O B) ≤ 18000000000000
  d0 : -18000000000000 ≤ costI (pairsS (stackOf false B)) (volP O B)
  d1 : costI (pairsS (stackOf false B)) (volP O B) ≤ 18000000000000
theorem cands_in {O B : List Crv} (hO : Valid true O) (hB : Valid false B) : ∀ p ∈ candsF O.flatten B.flatten, -1000000 ≤ p ∧ p ≤ 1000000 := by
  intro p hp
  unfold candsF at hp
  rcases List.mem_append.1 hp with h | h
  · obtain ⟨s, hs, rfl⟩ := List.mem_map.1 h
    obtain ⟨c, hc, hs⟩ := List.mem_flatten.1 hs
    have := (curveE_in (hO.2 c hc)).2.2 s hs
    exact ⟨this.2.2.1, this.2.2.2⟩
  · obtain ⟨s, hs, rfl⟩ := List.mem_map.1 h
    obtain ⟨c, hc, hs⟩ := List.mem_flatten.1 hs
    have := (curveE_in (hB.2 c hc)).2.2 s hs
    exact ⟨this.2.2.1, this.2.2.2⟩
theorem pick_mem (f : Int → Bool) : ∀ (l : List Int) (st : Int × Int), (pickF f l st).2 = st.2 ∨ (pickF f l st).2 ∈ l
  | [], st => .inl rfl
  | p :: r, st => by
    show (pickF f r (if (0 ≤ st.1 ∧ st.1 ≤ max p (-p)) ∨ f p = false then st else (max p (-p), p))).2 = st.2 ∨ (pickF f r (if (0 ≤ st.1 ∧ st.1 ≤ max p (-p)) ∨ f p = false then st else (max p (-p), p))).2 ∈ p :: r
    split
    · rcases pick_mem f r st with h | h
      · exact .inl h
      · exact .inr (List.mem_cons_of_mem _ h)
    · rcases pick_mem f r (max p (-p), p) with h | h
      · right; rw [h]; exact List.mem_cons_self
      · exact .inr (List.mem_cons_of_mem _ h)
theorem price_in {O B : List Crv} (hO : Valid true O) (hB : Valid false B) : -1000000 ≤ priceP O B ∧ priceP O B ≤ 1000000 := by
  unfold priceP nearF
  split
  · omega
  · rcases pick_mem (fun p => clearsF O.flatten B.flatten (p : Rat)) (candsF O.flatten B.flatten) (-1, 0) with h | h
    · rw [h]; show -1000000 ≤ (0 : Int) ∧ (0 : Int) ≤ 1000000; omega
    · exact cands_in hO hB _ h
theorem most_total {up : Bool} {L : List Crv} (hv : Valid up L) (l : Rat) : mostI up l L.flatten ≤ totalE (stackOf up L) := by
  rw [total_stack hv, (wantI_flat up l L).2]
  have : ∀ (M : List Crv), (∀ c ∈ M, ∀ s ∈ c, 0 ≤ s.1) → (M.map (mostI up l)).sum ≤ (M.map qtySum).sum := by
    intro M
    induction M with
    | nil => intro _; exact Int.le_refl _
    | cons c M ih =>
      intro h
      have h1 := (least_mostI (up := up) (l := l) (h c (by simp))).2.2
      have h2 := ih (fun d hd => h d (by simp [hd]))
      simp only [List.map_cons, List.sum_cons]
      omega
  exact this L (fun c hc s hs => Int.le_of_lt (crv_pos hv c hc s hs))
theorem run_ok {O B : List Crv} (h : wrongM O B = 0) : RunOk O B := by
  obtain ⟨h5, h6, hO, hB⟩ := wrongM_ok.1 h
  have hin := vol_in hO hB
  have hp := price_in hO hB
  have hl := flat_want (q := (priceP O B : Rat)) hB.2 B.length (Nat.le_refl _)
  rw [List.take_length] at hl
  have hv0 : 0 ≤ volP O B := by omega
  have hv1 : volP O B ≤ 18000000 := by omega
  have hc := costI_in _ (volP O B) hv0 (stack_in hO)
  have hd := costI_in _ (volP O B) hv0 (stack_in hB)
  have hg := most_total hO (priceP O B : Rat)
  have ht := most_total hB (priceP O B : Rat)
  exact ⟨hO, hB, hv0, hv1, hp.1, hp.2, by omega, by omega, share_bnd hO (offers_side hO hB), share_bnd hB (bids_side hO hB), by unfold welP; omega, by unfold welP; omega, by omega, by omega, by omega, by omega⟩
#print axioms run_ok
end Go.Proofs.YtlaemhigmgmgjaaGreat
/- clear: numbers: what it returns. No condition beyond sizes. -/
namespace Go.Proofs.YtlaemhigmgmgjaaGreat
set_option linter.unusedVariables false
set_option linter.unusedSimpArgs false
open Go.RowKit

abbrev i64s (l : List Int) : List Value := l.map fun x => Value.int .i64 x
theorem i64s_set (l : List Int) (j : Nat) (x : Int) : (i64s l).set j (.int .i64 x) = i64s (l.set j x) := by simp [i64s, List.map_set]
def fillI (xs : List Int) (k : Nat) : List Int := xs.take k ++ List.replicate (xs.length - k) 0
theorem fillI_len {xs : List Int} {k : Nat} (h : k ≤ xs.length) : (fillI xs k).length = xs.length := by unfold fillI; simp; omega
theorem fillI_next {xs : List Int} {k : Nat} (h : k < xs.length) : (fillI xs k).set k xs[k] = fillI xs (k + 1) := by
  unfold fillI
  rw [List.set_append_right _ _ (by simp; omega)]
  have e : k - (xs.take k).length = 0 := by simp; omega
  have e2 : xs.length - k = (xs.length - (k + 1)) + 1 := by omega
  rw [e, e2, List.replicate_succ, List.set_cons_zero, List.take_succ_eq_append_getElem h, List.append_assoc]
  rfl
theorem fillI_all (xs : List Int) : fillI xs xs.length = xs := by unfold fillI; simp
theorem fillI_zero (xs : List Int) : fillI xs 0 = List.replicate xs.length 0 := by unfold fillI; simp
theorem i64_blk_row {w : World} {B n : Nat} {xs : List Int} (h : Blk 2 w B (i64s xs)) (hx : ∀ x ∈ xs, I64 x) (hn : n ≤ B) (hm : xs.length ≤ 16) : Row Kd.i64 (New n) w (.slice (some ⟨B, 0, none⟩) xs.length xs.length) xs :=
  row_of_block (K := Kd.i64) (enc := fun x : Int => .int .i64 x) _ xs rfl (fun _ x h => ⟨rfl, hx x h⟩) h (fun j hj => by simp [i64s, hj]) hn (Nat.le_refl _) (by omega)
theorem qc_num {ok : Nat → Option Obj → Prop} {w : World} {x : Int} {t s : Bool} {A1 A2 : Option Addr} {m1 c1 m2 c2 : Nat} (h : Kd.qc.rel ok w (x : Rat) [.bool t, .slice A1 m1 c1, .bool s, .slice A2 m2 c2]) :
    Row Kd.u32 ok w (.slice A1 m1 c1) (dig x.natAbs) ∧ zv t (dig x.natAbs) = x := by
  obtain ⟨A, e, B, f, hcs, h1, h2⟩ := h
  simp only [List.cons.injEq, and_true] at hcs
  obtain ⟨ht, hs, -, -⟩ := hcs
  have hn : ((x : Rat)).num = x := rfl
  rw [hn] at h1 ht hs
  rw [hs]
  refine ⟨h1, ?_⟩
  injection ht with ht
  rw [ht]
  exact zv_dig x
set_option maxRecDepth 100000 in
set_option maxHeartbeats 2000000 in
theorem nums_calls (ok : Nat → Option Obj → Prop) (A : Option Addr) (n c : Nat) (xs : List Int) (w : World) (h : Row Kd.qc ok w (.slice A n c) (castL xs)) (hx : ∀ x ∈ xs, x.natAbs < 9223372036854775808) (hl : xs.length ≤ 16) :
    Calls Tryz.prog 42 #[.slice A n c, .int .i64 xs.length] w fun e w' => Below w.heap.size w w' ∧ ∃ A2, e = .returned (.slice A2 xs.length xs.length) ∧ Row Kd.i64 (New w.heap.size) w' (.slice A2 xs.length xs.length) xs := by
  obtain rfl := h.len
  rw [castL_len] at h ⊢
  obtain ⟨W, hW, g0, hB, hs⟩ := one_box w (.cells (Array.replicate xs.length (.int .i64 0)) 2)
  have mk := make_parts xs.length hl w
  have HB := Lib.hid hB
  have HS := Lib.hid hs
  have HBL : Hid (Blk 2 W w.heap.size (i64s (fillI xs 0))) := Lib.hid (by rw [fillI_zero]; have := blk_made g0; simpa [i64s] using this)
  have HR := Lib.hid h
  have HX := Lib.hid hx
  rw [hW] at mk
  clear g0 hB hs h hx
  go_enter Tryz.func42, Tryz.ntmps42
  go_wp2_with fail
  clear mk hW
  go_loopw [12] (fun i wr => ∃ k : Nat, k ≤ xs.length ∧ i = .int .i64 k ∧ Hid (Blk 2 wr w.heap.size (i64s (fillI xs k))) ∧ Hid (Below w.heap.size w wr))
    (fun i _ => xs.length - (intOf i).toNat)
  case atStart => exact ⟨0, Nat.zero_le _, rfl, HBL.out, HB.out⟩
  case round =>
    obtain ⟨k, hk, rfl, HK, HBW⟩ := hrel
    by_cases hlt : k < xs.length
    · have hlt2 : k < (castL xs).length := by rw [castL_len]; exact hlt
      obtain ⟨b, off, t1, A1, m1, c1, s1, A2, m2, c2, rfl, e0, e1, e2, e3, hq⟩ := qc_cell (HR.out.below HBW.out) hlt2
      have hxk : (castL xs)[k] = ((xs[k] : Int) : Rat) := List.getElem_map _
      rw [hxk] at hq
      have hxb := HX.out xs[k] (List.getElem_mem _)
      have hn := fillI_next hlt
      obtain ⟨x, hxd⟩ : ∃ x, x = xs[k] := ⟨_, rfl⟩
      rw [← hxd] at hq hxb hn
      obtain ⟨hr1, hz1⟩ := qc_num hq
      have HR1 := Lib.hid hr1
      have HZ1 := Lib.hid hz1
      have HN := Lib.hid hn
      have HXB := Lib.hid hxb
      have hk0 : (0 : Int) ≤ (k : Int) := by omega
      have hk1 : (k : Int) < (xs.length : Int) := by omega
      obtain ⟨wx, hWx, gx, hBx, hsx⟩ := one_box wr (.cells #[.bool t1, .slice A1 m1 c1, .bool s1, .slice A2 m2 c2] 44)
      have z0 : wx.cell? ⟨wr.heap.size, 0, none⟩ = some (.bool t1) := hcell gx 0 rfl
      have z1 : wx.cell? ⟨wr.heap.size, 1, none⟩ = some (.slice A1 m1 c1) := hcell gx 1 rfl
      have HBX := Lib.hid hBx
      clear hxk hxd hn hxb hq hr1 hz1 gx hBx hsx
      go_upto_region 5 with fail
      clear hWx e0 e1 e2 e3
      go_wp2_with fail
      refine (int64_calls ok t1 A1 m1 c1 (dig x.natAbs) _ (HR1.out.below HBX.out) (by rw [nv_dig]; exact HXB.out)).mono ?_
      rw [HZ1.out]
      rintro e w5 ⟨hb5, rfl⟩
      have hb6 := below_next HBX.out hb5
      have hk5 := HK.out.below hb6
      have hkl : k < (i64s (fillI xs k)).length := by rw [List.length_map, fillI_len hk]; exact hlt
      have c5 : w5.cell? ⟨w.heap.size, k, none⟩ = some ((i64s (fillI xs k))[k]) := hk5.cell k (List.getElem?_eq_getElem hkl)
      obtain ⟨v5, hv5⟩ : ∃ v5, v5 = (i64s (fillI xs k))[k] := ⟨_, rfl⟩
      rw [← hv5] at c5
      have f5 := hk5.free k
      have HK5 := Lib.hid hk5
      have HBN : Hid (Below w.heap.size w (w5.setCell ⟨w.heap.size, k, none⟩ (.int .i64 x))) := Lib.hid ((below_next HBW.out hb6).setCell (p := ⟨w.heap.size, k, none⟩) (Nat.le_refl _) _)
      have HKN : Hid (Blk 2 (w5.setCell ⟨w.heap.size, k, none⟩ (.int .i64 x)) w.heap.size (i64s (fillI xs (k + 1)))) := Lib.hid (by rw [← HN.out, ← i64s_set]; exact hk5.set k _)
      clear hb5 hb6 hk5 hkl hv5 z0 z1
      go_wp2
      go_roundw
      case rel => exact ⟨k + 1, hlt, by go_num, HKN.out, HBN.out⟩
      case measure => simp [intOf]; omega
    · obtain rfl : k = xs.length := by omega
      have hk2 := HK.out
      rw [fillI_all] at hk2
      have HR2 := Lib.hid (i64_blk_row hk2 (fun x h => by have := HX.out x h; unfold I64; omega) (Nat.le_refl _) hl)
      clear hk2
      go_wp2
      go_ret
      exact ⟨HBW.out, _, rfl, HR2.out⟩
#print axioms nums_calls
end Go.Proofs.YtlaemhigmgmgjaaGreat
/- clear: Run: what it returns. No condition beyond sizes. -/
namespace Go.Proofs.YtlaemhigmgmgjaaGreat
set_option linter.unusedVariables false
set_option linter.unusedSimpArgs false
open Go.RowKit

structure Res where
  qty : Int
  price : Int
  wel : Int
  sup : List Int
  bou : List Int
def runR (O B : List Crv) : Res × Int := if wrongM O B = 0 then (⟨volP O B, priceP O B, welP O B, shareXI true O (volP O B), shareXI false B (volP O B)⟩, 0) else (⟨0, 0, 0, [], []⟩, wrongM O B)
/-- The value of a result. -/
def ResV (n : Nat) (w : World) (v : Value) (r : Res) : Prop := ∃ (A1 A2 : Option Addr) (c1 c2 : Nat), v = .agg #[.int .i64 r.qty, .int .i64 r.price, .int .i64 r.wel, .slice A1 r.sup.length c1, .slice A2 r.bou.length c2] ∧
  Row Kd.i64 (New n) w (.slice A1 r.sup.length c1) r.sup ∧ Row Kd.i64 (New n) w (.slice A2 r.bou.length c2) r.bou
theorem fits_int2 {z : Int} (h : z.natAbs < 18446744073709551616) : Fits (z : Rat) 2 := by
  refine ⟨dig_length_le (by simpa using h), dig_length_le (by simp)⟩
theorem nums_at (ok : Nat → Option Obj → Prop) (A : Option Addr) (n c : Nat) (xs : List Int) (w : World) (h : Row Kd.qc ok w (.slice A n c) (castL xs)) (hx : ∀ x ∈ xs, x.natAbs < 9223372036854775808) (hl : xs.length ≤ 16) (m : Nat) (hm : xs.length = m) :
    Calls Tryz.prog 42 #[.slice A n c, .int .i64 m] w fun e w' => Below w.heap.size w w' ∧ ∃ A2, e = .returned (.slice A2 m m) ∧ Row Kd.i64 (New w.heap.size) w' (.slice A2 m m) xs := hm ▸ nums_calls ok A n c xs w h hx hl
theorem shareR_int {up : Bool} {L : List Crv} (hv : Valid up L) {v : Int} (h0 : 0 ≤ v) (h1 : v ≤ totalE (stackOf up L)) : shareR (stackOf up L) (v : Rat) = (castL (shareXI up L v), 0) := by
  rw [shareR_valid hv (by exact_mod_cast h0) (by exact_mod_cast h1), shareX_int]
theorem costR_int {up : Bool} {L : List Crv} (hv : Valid up L) {v : Int} (h0 : 0 ≤ v) (h1 : v ≤ totalE (stackOf up L)) : costR (stackOf up L) (v : Rat) = (((costI (pairsS (stackOf up L)) v : Int) : Rat), 0) := by
  rw [costR_valid hv (by exact_mod_cast h0) (by exact_mod_cast h1), costQ_eq, costC_int]
theorem QC.set1 {m : Nat} {w : World} {v u : Value} {q : Rat} {a : Addr} (h : QC m w v q) (ha : a.block < m) : QC m (w.setCell a u) v q := by
  obtain ⟨A, c, B, d, hv, h1, h2⟩ := h
  exact ⟨A, c, B, d, hv, h1.newset ha, h2.newset ha⟩
theorem five_stores {w0 w : World} {n0 : Nat} {a b c d e : Value} (hB : Below w0.heap.size w0 w) (hn : w0.heap.size ≤ n0) :
    Below w0.heap.size w0 (((((w.setCell ⟨n0, 0, none⟩ a).setCell ⟨n0, 1, none⟩ b).setCell ⟨n0, 2, none⟩ c).setCell ⟨n0, 3, none⟩ d).setCell ⟨n0, 4, none⟩ e) :=
  ((((hB.setCell (p := ⟨n0, 0, none⟩) hn _).setCell (p := ⟨n0, 1, none⟩) hn _).setCell (p := ⟨n0, 2, none⟩) hn _).setCell (p := ⟨n0, 3, none⟩) hn _).setCell (p := ⟨n0, 4, none⟩) hn _
theorem field_bound (a b : Int) (w : World) : (Instr.field 68 (.agg #[.int .i64 a, .int .i64 b]) 0).run Tryz.prog w = .ok (.int .i64 a) w := by
  simp [Instr.field, run_underlying Tryz.underlying68, go_sem, asAgg, Result.andThen, part, isAgg, run_underlying Tryz.underlying2]
theorem field_q (t s : Bool) (A B : Option Addr) (m c j d : Nat) (w : World) : (Instr.field 44 (.agg #[.bool t, .slice A m c, .bool s, .slice B j d]) 0).run Tryz.prog w = .ok (.agg #[.bool t, .slice A m c]) w := by
  simp [Instr.field, run_underlying Tryz.underlying44, go_sem, asAgg, Result.andThen, part, isAgg, run_underlying Tryz.underlying42]
set_option maxRecDepth 100000 in
set_option maxHeartbeats 8000000 in
theorem run_calls (ok : Nat → Option Obj → Prop) (A : Option Addr) (n c : Nat) (O : List Crv) (A2 : Option Addr) (n2 c2 : Nat) (B : List Crv) (w : World) (h : Row Kd.curve ok w (.slice A n c) O) (h2 : Row Kd.curve ok w (.slice A2 n2 c2) B) :
    Calls Tryz.prog 14 #[.slice A n c, .slice A2 n2 c2] w fun e w' => Below w.heap.size w w' ∧ ∃ v, e = .returned (.tuple #[v, .int .i64 (runR O B).2]) ∧ ResV w.heap.size w' v (runR O B).1 := by
  obtain rfl := h.len
  obtain rfl := h2.len
  obtain ⟨W, hW, g0, hB, hs⟩ := one_box w (.cells #[.int .i64 0, .int .i64 0, .int .i64 0, .slice none 0 0, .slice none 0 0] 30)
  have G0 := Lib.hid g0
  have HB := Lib.hid hB
  have HS := Lib.hid hs
  have HR := Lib.hid h
  have HR2 := Lib.hid h2
  obtain ⟨d, hd⟩ : ∃ d, d = wrongM O B := ⟨_, rfl⟩
  obtain ⟨rr, hrr⟩ : ∃ rr, rr = runR O B := ⟨_, rfl⟩
  rw [← hrr]
  have HRR := Lib.hid hrr
  clear g0 hB hs h h2 hrr
  go_enter Tryz.func14, Tryz.ntmps14
  go_wp2_with fail
  clear hW
  refine (cwrong_calls ok _ _ _ O _ _ _ B _ (HR.out.below HB.out) (HR2.out.below HB.out)).mono ?_
  rw [← hd]
  rintro e w1 ⟨hb1, rfl⟩
  have HB1 := Lib.hid (below_next HB.out hb1)
  have hg := heap_below hb1 G0.out
  have GR1 := Lib.hid hg
  have HS1 : Hid (w.heap.size < w1.heap.size) := Lib.hid (by have := hb1.size; have := HS.out; omega)
  clear hb1
  by_cases h0 : d = 0
  · have HE : Hid (rr = (⟨volP O B, priceP O B, welP O B, shareXI true O (volP O B), shareXI false B (volP O B)⟩, 0)) := Lib.hid (by rw [HRR.out]; unfold runR; rw [if_pos (hd ▸ h0)])
    have HV : Hid (wrongM O B = 0) := Lib.hid (hd ▸ h0)
    have HOK := Lib.hid (run_ok HV.out)
    subst h0
    clear hd hg
    obtain ⟨g, hgd⟩ : ∃ g, g = priceP O B := ⟨_, rfl⟩
    obtain ⟨vol, hvd⟩ : ∃ vol, vol = volP O B := ⟨_, rfl⟩
    have HGD := Lib.hid hgd
    have HVD := Lib.hid hvd
    have hp0 := HOK.out.p0
    have hp1 := HOK.out.p1
    rw [← hgd] at hp0 hp1
    clear hgd hvd
    go_wp2_with fail
    refine (near_calls ok _ _ _ O _ _ _ B _ (HR.out.below HB1.out) (HR2.out.below HB1.out) HV.out).mono ?_
    rw [← HGD.out]
    rintro e w2 ⟨hb2, rfl⟩
    obtain ⟨WF, hWF, gF, hBF, hsF⟩ := one_box w2 (.cells #[.int .i64 0, .int .i64 g, .int .i64 0, .slice none 0 0, .slice none 0 0] 30)
    obtain ⟨F, hFd⟩ : ∃ F, F = w2.heap.size := ⟨_, rfl⟩
    rw [← hFd] at gF hsF
    have HF0 : Hid (w.heap.size < F) := Lib.hid (by have := HS1.out; have := hb2.size; omega)
    have GFF := Lib.hid gF
    have GRF := Lib.hid (heap_below hBF (heap_below hb2 GR1.out))
    have HBF := Lib.hid (below_next (below_next HB1.out hb2) hBF)
    have HSF : Hid (F < WF.heap.size) := Lib.hid (by omega)
    have z1 : WF.cell? ⟨F, 1, none⟩ = some (.int .i64 g) := hcell gF 1 rfl
    have HWF := Lib.hid hWF
    clear hb2 gF hBF hsF hWF
    go_upto_region 5 with fail
    rw [HWF.out, ← hFd]
    clear HWF hFd
    go_wp2_with fail
    refine (ffrom_calls g _ ⟨by omega, by omega⟩).mono ?_
    rintro e w3 ⟨hb3, r3, rfl, hr3⟩
    obtain ⟨t1, A1, m1, c1, s1, B1, j1, d1, rfl, Z3⟩ := hr3.open
    obtain ⟨WP, hWP, gP, hBP, hsP⟩ := one_box w3 (.cells #[.bool t1, .slice A1 m1 c1, .bool s1, .slice B1 j1 d1] 44)
    obtain ⟨P, hPd⟩ : ∃ P, P = w3.heap.size := ⟨_, rfl⟩
    rw [← hPd] at gP hsP
    have HB3 := Lib.hid (below_next hb3 hBP)
    have HBP := Lib.hid (below_next HBF.out HB3.out)
    have GFP := Lib.hid (heap_below HB3.out GFF.out)
    have GRP := Lib.hid (heap_below HB3.out GRF.out)
    have HQP : Hid (QIn (fun _ _ => True) WP (.agg #[.bool t1, .slice A1 m1 c1, .bool s1, .slice B1 j1 d1]) (g : Rat) 2) := Lib.hid (((Z3.out.qin (fits_int (by omega))).any.le (by omega)).below hBP)
    have HFP : Hid (F < P) := Lib.hid (by have := HSF.out; have := hb3.size; omega)
    have a0 : WP.drew.cell? ⟨P, 0, none⟩ = some (.bool t1) := hcell (heap_drew gP) 0 rfl
    have a1 : WP.drew.cell? ⟨P, 1, none⟩ = some (.slice A1 m1 c1) := hcell (heap_drew gP) 1 rfl
    have a2 : WP.drew.cell? ⟨P, 2, none⟩ = some (.bool s1) := hcell (heap_drew gP) 2 rfl
    have a3 : WP.drew.cell? ⟨P, 3, none⟩ = some (.slice B1 j1 d1) := hcell (heap_drew gP) 3 rfl
    have a4 : WP.drew.cell? ⟨F, 0, none⟩ = some (.int .i64 0) := hcell (heap_drew GFP.out) 0 rfl
    have a5 : WP.drew.frozen? ⟨F, 0, none⟩ = false := hfree (heap_drew GFP.out) 0
    clear hb3 hr3 gP hBP hsP z1
    go_upto_region 6 with fail
    rw [← hPd]
    clear hWP hPd
    obtain ⟨lo, hlo⟩ : ∃ lo, lo = leastI true (g : Rat) O.flatten := ⟨_, rfl⟩
    obtain ⟨hi, hhi⟩ : ∃ hi, hi = leastI false (g : Rat) B.flatten := ⟨_, rfl⟩
    have HVE : Hid (max lo hi = vol) := Lib.hid (by rw [hlo, hhi, HVD.out, HGD.out]; rfl)
    have HLO := Lib.hid hlo
    have HHI := Lib.hid hhi
    have HRP := Lib.hid ((HR.out.below HBP.out).drew)
    have HRP2 := Lib.hid ((HR2.out.below HBP.out).drew)
    have HQD := Lib.hid (HQP.out.drew)
    clear hlo hhi
    go_cut [] (fun wc => Hid (wc.heap[F]? = some (.cells #[.int .i64 vol, .int .i64 g, .int .i64 0, .slice none 0 0, .slice none 0 0] 30 (0, 0))) ∧ Hid (wc.heap[w.heap.size]? = some (.cells #[.int .i64 0, .int .i64 0, .int .i64 0, .slice none 0 0, .slice none 0 0] 30 (0, 0))) ∧ Hid (Below w.heap.size w wc) ∧ Hid (F < wc.heap.size))
    case first J0 K0 hJ0 hK0 =>
      have fb := field_bound
      go_region_with
        (first
          | (go_at_call 38; have hx := HB4.out; clear hx; refine (sum_down_calls ok _ _ _ B _ (g : Rat) 2 _ (by exact HRP2.out.below HB4.out) (by exact HOK.out.hB.2) (by have := (wrongM_ok.1 HV.out).2.1; omega) (by exact HQD.out.below HB4.out) (by omega) (by omega)).mono ?_; rintro e w5 ⟨hb5, rfl⟩; rw [← HHI.out]; have a0 := cell_below hb5 a0; have a1 := cell_below hb5 a1; have a2 := cell_below hb5 a2; have a3 := cell_below hb5 a3; have HF5 := Lib.hid (heap_below (below_next HB4.out hb5) (heap_drew GFP.out)); have a4 := hcell HF5.out 0 rfl; have a5 := hfree HF5.out 0; have HB5 := Lib.hid (below_next HB4.out hb5); clear hb5)
          | (go_at_call 38; refine (sum_up_calls ok _ _ _ O _ (g : Rat) 2 _ (by exact HRP.out) (by exact HOK.out.hO.2) (by have := (wrongM_ok.1 HV.out).1; omega) (by exact HQD.out) (by omega) (by omega)).mono ?_; rintro e w4 ⟨hb4, rfl⟩; rw [← HLO.out]; have a0 := cell_below hb4 a0; have a1 := cell_below hb4 a1; have a2 := cell_below hb4 a2; have a3 := cell_below hb4 a3; have HB4 := Lib.hid hb4; clear hb4))
      all_goals
        refine hK0 _ _ (Met.intro (hJ0 _ _ ?_))
        (repeat apply Exists.intro)
        refine ⟨⟨?_, ?_, ?_, ?_⟩, rfl⟩
        · show _ = _
          rw [HVE.out]
          exact set_same HF5.out
        · show _ = _
          exact set_far (heap_below HB5.out (heap_drew GRP.out)) (by have := HF0.out; show w.heap.size ≠ F; omega)
        · show Below _ _ _
          exact (below_next (below_drew HBP.out) HB5.out).setCell (p := ⟨F, 0, none⟩) (by have := HF0.out; show _ ≤ F; omega) _
        · show _ < _
          have h1 := HB5.out.size
          have h2 := HSF.out
          have h3 := HB3.out.size
          simp only [World.size_setCell]
          simp only [World.size_drew] at h1
          omega
    case rest =>
      obtain ⟨GFC, GRC, HBC, HSC⟩ := hcut
      have hv0 := HOK.out.v0
      have hv1 := HOK.out.v1
      rw [← HVD.out] at hv0 hv1
      clear a0 a1 a2 a3 a4 a5
      go_wp2_with fail
      refine (offers_calls ok _ _ _ O _ (HR.out.below HBC.out)).mono ?_
      rintro e w5 ⟨hb5, v5, i5, er5, s5, rfl, hm5, hr5⟩
      rw [mergeR_valid HOK.out.hO] at hm5
      injection hm5 with hm5 hm6
      injection hm6 with hm6 hm7
      subst hm5 hm6 hm7
      obtain ⟨Au, cu, rfl, -⟩ := hr5.form
      have HB5 := Lib.hid (below_next HBC.out hb5)
      have GF5 := Lib.hid (heap_below hb5 GFC.out)
      have GR5 := Lib.hid (heap_below hb5 GRC.out)
      have HS5 : Hid (F < w5.heap.size) := Lib.hid (by have := hb5.size; have := HSC.out; omega)
      have HU5 := Lib.hid hr5
      clear hb5 hr5
      go_wp2_with fail
      refine (bids_calls ok _ _ _ B _ (HR2.out.below HB5.out)).mono ?_
      rintro e w6 ⟨hb6, v6, i6, er6, s6, rfl, hm5, hr6⟩
      rw [mergeR_valid HOK.out.hB] at hm5
      injection hm5 with hm5 hm6
      injection hm6 with hm6 hm7
      subst hm5 hm6 hm7
      obtain ⟨Ad, cd, rfl, -⟩ := hr6.form
      have HB6 := Lib.hid (below_next HB5.out hb6)
      have GF6 := Lib.hid (heap_below hb6 GF5.out)
      have GR6 := Lib.hid (heap_below hb6 GR5.out)
      have HS6 : Hid (F < w6.heap.size) := Lib.hid (by have := hb6.size; have := HS5.out; omega)
      have HU6 := Lib.hid (HU5.out.below hb6)
      have HD6 := Lib.hid hr6
      have z0 : w6.cell? ⟨F, 0, none⟩ = some (.int .i64 vol) := hcell GF6.out 0 rfl
      clear hb6 hr6
      go_wp2_with fail
      refine (ffrom_calls vol _ ⟨by omega, by omega⟩).mono ?_
      rintro e w7 ⟨hb7, r7, rfl, hr7⟩
      obtain ⟨t7, A7, m7, c7, s7, B7, j7, d7, rfl, Z7⟩ := hr7.open
      obtain ⟨WQ, hWQ, gQ, hBQ, hsQ⟩ := one_box w7 (.cells #[.bool t7, .slice A7 m7 c7, .bool s7, .slice B7 j7 d7] 44)
      obtain ⟨Q, hQd⟩ : ∃ Q, Q = w7.heap.size := ⟨_, rfl⟩
      rw [← hQd] at gQ hsQ
      have HB7 := Lib.hid (below_next hb7 hBQ)
      have HBQ := Lib.hid (below_next HB6.out HB7.out)
      have GFQ := Lib.hid (heap_below HB7.out GF6.out)
      have GRQ := Lib.hid (heap_below HB7.out GR6.out)
      have HUQ := Lib.hid (HU6.out.below HB7.out)
      have HDQ := Lib.hid (HD6.out.below HB7.out)
      have HQQ : Hid (QC w6.heap.size WQ (.agg #[.bool t7, .slice A7 m7 c7, .bool s7, .slice B7 j7 d7]) (vol : Rat)) := Lib.hid (Z7.out.below hBQ)
      have HFIT : Hid (Fits (vol : Rat) 2) := Lib.hid (fits_int2 (by omega))
      have HFQ : Hid (F < Q) := Lib.hid (by have := HS6.out; have := hb7.size; omega)
      have GQQ := Lib.hid gQ
      have HSQ : Hid (Q < WQ.heap.size) := Lib.hid (by omega)
      have q0 : WQ.cell? ⟨Q, 0, none⟩ = some (.bool t7) := hcell gQ 0 rfl
      have q1 : WQ.cell? ⟨Q, 1, none⟩ = some (.slice A7 m7 c7) := hcell gQ 1 rfl
      have q2 : WQ.cell? ⟨Q, 2, none⟩ = some (.bool s7) := hcell gQ 2 rfl
      have q3 : WQ.cell? ⟨Q, 3, none⟩ = some (.slice B7 j7 d7) := hcell gQ 3 rfl
      clear hb7 hr7 gQ hBQ hsQ z0
      go_upto_region 10 with fail
      rw [← hQd]
      clear hWQ hQd
      obtain ⟨xs, hxs⟩ : ∃ xs, xs = shareXI true O vol := ⟨_, rfl⟩
      obtain ⟨ys, hys⟩ : ∃ ys, ys = shareXI false B vol := ⟨_, rfl⟩
      obtain ⟨cO, hcO⟩ : ∃ cO, cO = costI (pairsS (stackOf true O)) vol := ⟨_, rfl⟩
      obtain ⟨cB, hcB⟩ : ∃ cB, cB = costI (pairsS (stackOf false B)) vol := ⟨_, rfl⟩
      have hok := HOK.out
      have hg0 := hok.g0
      have ht0 := hok.t0
      have hc0 := hok.c0
      have hc1 := hok.c1
      have hd0 := hok.d0
      have hd1 := hok.d1
      have hgs := hok.gs
      have hts := hok.ts
      rw [← HVD.out] at hg0 ht0 hc0 hc1 hd0 hd1 hgs hts
      rw [← hxs] at hgs
      rw [← hys] at hts
      rw [← hcO] at hc0 hc1
      rw [← hcB] at hd0 hd1
      have HSO : Hid (shareR (stackOf true O) (vol : Rat) = (castL xs, 0)) := Lib.hid (by rw [hxs]; exact shareR_int hok.hO hv0 hg0)
      have HSB : Hid (shareR (stackOf false B) (vol : Rat) = (castL ys, 0)) := Lib.hid (by rw [hys]; exact shareR_int hok.hB hv0 ht0)
      have HCO : Hid (costR (stackOf true O) (vol : Rat) = ((cO : Rat), 0)) := Lib.hid (by rw [hcO]; exact costR_int hok.hO hv0 hg0)
      have HCB : Hid (costR (stackOf false B) (vol : Rat) = ((cB : Rat), 0)) := Lib.hid (by rw [hcB]; exact costR_int hok.hB hv0 ht0)
      have HXL : Hid (xs.length = O.length) := Lib.hid (by rw [hxs]; exact shareXI_len hok.hO vol)
      have HYL : Hid (ys.length = B.length) := Lib.hid (by rw [hys]; exact shareXI_len hok.hB vol)
      have HGS := Lib.hid hgs
      have HTS := Lib.hid hts
      have HVQ : Hid (0 ≤ (vol : Rat)) := Lib.hid (by exact_mod_cast hv0)
      have HWE : Hid (welP O B = cB - cO) := Lib.hid (by rw [hcB, hcO, HVD.out]; rfl)
      have HXE : Hid (xs = shareXI true O (volP O B) ∧ ys = shareXI false B (volP O B)) := Lib.hid ⟨by rw [hxs, HVD.out], by rw [hys, HVD.out]⟩
      have HON : Hid (O.length ≤ 16 ∧ B.length ≤ 16) := Lib.hid ⟨hok.hO.1, hok.hB.1⟩
      clear hxs hys hcO hcB hok hg0 ht0 hgs hts
      go_wp2_with fail
      refine (share_calls _ _ _ _ (stackOf true O) _ (vol : Rat) 2 _ HUQ.out (HQQ.out.qin HFIT.out).any (by omega) (by omega) HVQ.out).mono ?_
      rw [HSO.out]
      rintro e w8 ⟨hb8, v8, rfl, hr8⟩
      obtain ⟨A8, c8, rfl, -⟩ := hr8.form
      have HB8 := Lib.hid (below_next HBQ.out hb8)
      have GF8 := Lib.hid (heap_below hb8 GFQ.out)
      have GR8 := Lib.hid (heap_below hb8 GRQ.out)
      have GQ8 := Lib.hid (heap_below hb8 GQQ.out)
      have HU8 := Lib.hid (HUQ.out.below hb8)
      have HD8 := Lib.hid (HDQ.out.below hb8)
      have HQ8 := Lib.hid (HQQ.out.below hb8)
      have HX8 := Lib.hid hr8
      have HS8 : Hid (Q < w8.heap.size) := Lib.hid (by have := hb8.size; have := HSQ.out; omega)
      clear q0 q1 q2 q3 hb8 hr8
      have q0 : w8.cell? ⟨Q, 0, none⟩ = some (.bool t7) := hcell GQ8.out 0 rfl
      have q1 : w8.cell? ⟨Q, 1, none⟩ = some (.slice A7 m7 c7) := hcell GQ8.out 1 rfl
      have q2 : w8.cell? ⟨Q, 2, none⟩ = some (.bool s7) := hcell GQ8.out 2 rfl
      have q3 : w8.cell? ⟨Q, 3, none⟩ = some (.slice B7 j7 d7) := hcell GQ8.out 3 rfl
      go_wp2_with fail
      refine (share_calls _ _ _ _ (stackOf false B) _ (vol : Rat) 2 _ HD8.out (HQ8.out.qin HFIT.out).any (by omega) (by omega) HVQ.out).mono ?_
      rw [HSB.out]
      rintro e w9 ⟨hb9, v9, rfl, hr9⟩
      obtain ⟨A9, c9, rfl, -⟩ := hr9.form
      have HB9 := Lib.hid (below_next HB8.out hb9)
      have GF9 := Lib.hid (heap_below hb9 GF8.out)
      have GR9 := Lib.hid (heap_below hb9 GR8.out)
      have GQ9 := Lib.hid (heap_below hb9 GQ8.out)
      have HU9 := Lib.hid (HU8.out.below hb9)
      have HD9 := Lib.hid (HD8.out.below hb9)
      have HQ9 := Lib.hid (HQ8.out.below hb9)
      have HX9 := Lib.hid (HX8.out.below hb9)
      have HY9 := Lib.hid hr9
      have HS9 : Hid (Q < w9.heap.size) := Lib.hid (by have := hb9.size; have := HS8.out; omega)
      clear q0 q1 q2 q3 hb9 hr9
      go_wp2_with fail
      refine (nums_at _ _ _ _ xs _ HX9.out (fun x hx => by have := HGS.out x hx; omega) (by have h1 := HXL.out; have h2 := HON.out.1; omega) O.length HXL.out).mono ?_
      rintro e w10 ⟨hb10, A10, rfl, hr10⟩
      have HB10 := Lib.hid (below_next HB9.out hb10)
      have GF10 := Lib.hid (heap_below hb10 GF9.out)
      have GR10 := Lib.hid (heap_below hb10 GR9.out)
      have GQ10 := Lib.hid (heap_below hb10 GQ9.out)
      have HU10 := Lib.hid (HU9.out.below hb10)
      have HD10 := Lib.hid (HD9.out.below hb10)
      have HQ10 := Lib.hid (HQ9.out.below hb10)
      have HY10 := Lib.hid (HY9.out.below hb10)
      have HXR10 := Lib.hid hr10
      have HS10 : Hid (Q < w10.heap.size) := Lib.hid (by have := hb10.size; have := HS9.out; omega)
      clear hb10 hr10
      go_wp2_with fail
      refine (nums_at _ _ _ _ ys _ HY10.out (fun x hx => by have := HTS.out x hx; omega) (by have h1 := HYL.out; have h2 := HON.out.2; omega) B.length HYL.out).mono ?_
      rintro e w11 ⟨hb11, A11, rfl, hr11⟩
      have hgf := heap_below hb11 GF10.out
      have z3 : w11.cell? ⟨F, 3, none⟩ = some (.slice none 0 0) := hcell hgf 3 rfl
      have z4 : w11.cell? ⟨F, 4, none⟩ = some (.slice none 0 0) := hcell hgf 4 rfl
      have f3 := hfree hgf 3
      have f4 := hfree hgf 4
      obtain ⟨WN, hWN⟩ : ∃ WN, WN = (w11.setCell ⟨F, 3, none⟩ (.slice A10 O.length O.length)).setCell ⟨F, 4, none⟩ (.slice A11 B.length B.length) := ⟨_, rfl⟩
      have hfq := HFQ.out
      have hfw := HF0.out
      have hq11 : Q < w11.heap.size := by have := hb11.size; have := HS10.out; omega
      have HBN : Hid (Below w.heap.size w WN) := Lib.hid (by rw [hWN]; exact ((below_next HB10.out hb11).setCell (p := ⟨F, 3, none⟩) (by show _ ≤ F; omega) _).setCell (p := ⟨F, 4, none⟩) (by show _ ≤ F; omega) _)
      have hne : ∀ k : Nat, k ≠ F → WN.heap[k]? = w11.heap[k]? := fun k hk => by rw [hWN]; exact set_far (set_far rfl hk) hk
      have GFN : Hid (WN.heap[F]? = some (.cells #[.int .i64 vol, .int .i64 g, .int .i64 0, .slice A10 O.length O.length, .slice A11 B.length B.length] 30 (0, 0))) := Lib.hid (by rw [hWN]; exact set_same (set_same hgf))
      have GRN := Lib.hid ((hne w.heap.size (by omega)).trans (heap_below hb11 GR10.out))
      have GQN := Lib.hid ((hne Q (by omega)).trans (heap_below hb11 GQ10.out))
      have hfc := HSC.out
      have hf5 := HS5.out
      have hf6 := HS6.out
      have hq9 := HS9.out
      have hq10 := HS10.out
      have HUN : Hid (Row Kd.level (New wc.heap.size) WN (.slice Au (stackOf true O).length cu) (stackOf true O)) := Lib.hid (by rw [hWN]; exact ((HU10.out.below hb11).newset (a := ⟨F, 3, none⟩) hfc).newset (a := ⟨F, 4, none⟩) hfc)
      have HDN : Hid (Row Kd.level (New w5.heap.size) WN (.slice Ad (stackOf false B).length cd) (stackOf false B)) := Lib.hid (by rw [hWN]; exact ((HD10.out.below hb11).newset (a := ⟨F, 3, none⟩) hf5).newset (a := ⟨F, 4, none⟩) hf5)
      have HQN : Hid (QC w6.heap.size WN (.agg #[.bool t7, .slice A7 m7 c7, .bool s7, .slice B7 j7 d7]) (vol : Rat)) := Lib.hid (by rw [hWN]; exact ((HQ10.out.below hb11).set1 (a := ⟨F, 3, none⟩) hf6).set1 (a := ⟨F, 4, none⟩) hf6)
      have HXN : Hid (Row Kd.i64 (New w9.heap.size) WN (.slice A10 O.length O.length) xs) := Lib.hid (by rw [hWN]; exact ((HXR10.out.below hb11).newset (a := ⟨F, 3, none⟩) (by show F < _; omega)).newset (a := ⟨F, 4, none⟩) (by show F < _; omega))
      have HYN : Hid (Row Kd.i64 (New w10.heap.size) WN (.slice A11 B.length B.length) ys) := Lib.hid (by rw [hWN]; exact (hr11.newset (a := ⟨F, 3, none⟩) (by show F < _; omega)).newset (a := ⟨F, 4, none⟩) (by show F < _; omega))
      have HSN : Hid (Q < WN.heap.size) := Lib.hid (by rw [hWN]; simp only [World.size_setCell]; exact hq11)
      have HWN := Lib.hid hWN
      clear hb11 hr11 hgf hne hfq hfw hq11 hfc hf5 hf6 hq9 hq10 hWN
      go_upto_region 13 with fail
      rw [← HWN.out]
      clear HWN z3 z4 f3 f4
      have q0 : WN.cell? ⟨Q, 0, none⟩ = some (.bool t7) := hcell GQN.out 0 rfl
      have q1 : WN.cell? ⟨Q, 1, none⟩ = some (.slice A7 m7 c7) := hcell GQN.out 1 rfl
      have q2 : WN.cell? ⟨Q, 2, none⟩ = some (.bool s7) := hcell GQN.out 2 rfl
      have q3 : WN.cell? ⟨Q, 3, none⟩ = some (.slice B7 j7 d7) := hcell GQN.out 3 rfl
      go_wp2_with fail
      refine (cost_calls _ _ _ _ (stackOf true O) _ (vol : Rat) 2 _ HUN.out (HQN.out.qin HFIT.out).any (by omega) (by omega) HVQ.out).mono ?_
      rw [HCO.out]
      rintro e w12 ⟨hb12, v12, rfl, hr12⟩
      obtain ⟨t12, A12, m12, c12, s12, B12, j12, d12, rfl, Z12⟩ := hr12.open
      obtain ⟨WC, hWC, gC, hBC, hsC⟩ := one_box w12 (.cells #[.bool t12, .slice A12 m12 c12, .bool s12, .slice B12 j12 d12] 44)
      obtain ⟨C, hCd⟩ : ∃ C, C = w12.heap.size := ⟨_, rfl⟩
      rw [← hCd] at gC hsC
      have HBB := Lib.hid (below_next hb12 hBC)
      have HBCC := Lib.hid (below_next HBN.out HBB.out)
      have GFC2 := Lib.hid (heap_below HBB.out GFN.out)
      have GRC2 := Lib.hid (heap_below HBB.out GRN.out)
      have GQC2 := Lib.hid (heap_below HBB.out GQN.out)
      have GCC := Lib.hid gC
      have HDC := Lib.hid (HDN.out.below HBB.out)
      have HQC := Lib.hid (HQN.out.below HBB.out)
      have HXC := Lib.hid (HXN.out.below HBB.out)
      have HYC := Lib.hid (HYN.out.below HBB.out)
      have HZC := Lib.hid (Z12.out.below hBC)
      have HQC1 : Hid (Q < C ∧ C < WC.heap.size) := Lib.hid (by have := HSN.out; have := hb12.size; omega)
      clear q0 q1 q2 q3 hb12 hr12 gC hBC hsC
      go_upto_region 14 with fail
      rw [← hCd]
      clear hWC hCd
      have q0 : WC.cell? ⟨Q, 0, none⟩ = some (.bool t7) := hcell GQC2.out 0 rfl
      have q1 : WC.cell? ⟨Q, 1, none⟩ = some (.slice A7 m7 c7) := hcell GQC2.out 1 rfl
      have q2 : WC.cell? ⟨Q, 2, none⟩ = some (.bool s7) := hcell GQC2.out 2 rfl
      have q3 : WC.cell? ⟨Q, 3, none⟩ = some (.slice B7 j7 d7) := hcell GQC2.out 3 rfl
      go_wp2_with fail
      refine (cost_calls _ _ _ _ (stackOf false B) _ (vol : Rat) 2 _ HDC.out (HQC.out.qin HFIT.out).any (by omega) (by omega) HVQ.out).mono ?_
      rw [HCB.out]
      rintro e w13 ⟨hb13, v13, rfl, hr13⟩
      obtain ⟨t13, A13, m13, c13, s13, B13, j13, d13, rfl, Z13⟩ := hr13.open
      obtain ⟨WD, hWD, gD, hBD, hsD⟩ := one_box w13 (.cells #[.bool t13, .slice A13 m13 c13, .bool s13, .slice B13 j13 d13] 44)
      obtain ⟨D, hDd⟩ : ∃ D, D = w13.heap.size := ⟨_, rfl⟩
      rw [← hDd] at gD hsD
      have HBE := Lib.hid (below_next hb13 hBD)
      have HBD := Lib.hid (below_next HBCC.out HBE.out)
      have GFD := Lib.hid (heap_below HBE.out GFC2.out)
      have GRD := Lib.hid (heap_below HBE.out GRC2.out)
      have GCD := Lib.hid (heap_below HBE.out GCC.out)
      have GDD := Lib.hid gD
      have HXD := Lib.hid (HXC.out.below HBE.out)
      have HYD := Lib.hid (HYC.out.below HBE.out)
      have HZD := Lib.hid (HZC.out.below HBE.out)
      have HYZ := Lib.hid (Z13.out.below hBD)
      clear q0 q1 q2 q3 hb13 hr13 gD hBD hsD
      go_upto_region 15 with fail
      rw [← hDd]
      clear hWD hDd
      have q0 : WD.cell? ⟨C, 0, none⟩ = some (.bool t12) := hcell GCD.out 0 rfl
      have q1 : WD.cell? ⟨C, 1, none⟩ = some (.slice A12 m12 c12) := hcell GCD.out 1 rfl
      have q2 : WD.cell? ⟨C, 2, none⟩ = some (.bool s12) := hcell GCD.out 2 rfl
      have q3 : WD.cell? ⟨C, 3, none⟩ = some (.slice B12 j12 d12) := hcell GCD.out 3 rfl
      have r0 : WD.cell? ⟨D, 0, none⟩ = some (.bool t13) := hcell GDD.out 0 rfl
      have r1 : WD.cell? ⟨D, 1, none⟩ = some (.slice A13 m13 c13) := hcell GDD.out 1 rfl
      have r2 : WD.cell? ⟨D, 2, none⟩ = some (.bool s13) := hcell GDD.out 2 rfl
      have r3 : WD.cell? ⟨D, 3, none⟩ = some (.slice B13 j13 d13) := hcell GDD.out 3 rfl
      have fq := field_q
      go_wp2_with fail
      refine (fsub_calls _ _ (cB : Rat) (cO : Rat) 2 _ (HYZ.out.qin (fits_int2 (by omega))).any (HZD.out.qin (fits_int2 (by omega))).any (by omega) (by omega)).mono ?_
      rw [show ((cB : Rat) - (cO : Rat)) = ((cB - cO : Int) : Rat) from (Rat.intCast_sub _ _).symm]
      rintro e w14 ⟨hb14, v14, rfl, hr14⟩
      obtain ⟨A14, c14, B14, d14, rfl, hz14, -⟩ := hr14
      have hn14 : ((cB - cO : Int) : Rat).num = cB - cO := rfl
      rw [hn14] at hz14 ⊢
      obtain ⟨wl, hwl⟩ : ∃ wl, wl = cB - cO := ⟨_, rfl⟩
      rw [← hwl] at hz14 ⊢
      obtain ⟨tt, htt⟩ : ∃ tt, tt = decide (wl < 0) := ⟨_, rfl⟩
      have hzv : zv tt (dig wl.natAbs) = wl := by rw [htt]; exact zv_dig wl
      rw [← htt]
      clear htt
      obtain ⟨dd, hdd⟩ : ∃ dd, dd = dig wl.natAbs := ⟨_, rfl⟩
      have hnd : nv dd < 9223372036854775808 := by rw [hdd, nv_dig]; omega
      rw [← hdd] at hz14 hzv ⊢
      obtain ⟨l14, hl14⟩ : ∃ l14, l14 = (dig (if ((cB - cO : Int) : Rat).den = 1 then 0 else ((cB - cO : Int) : Rat).den)).length := ⟨_, rfl⟩
      first | rw [← hl14] | skip
      have HZ14 := Lib.hid hz14
      have HZV := Lib.hid hzv
      have HND := Lib.hid hnd
      have HB14 := Lib.hid hb14
      have HWL : Hid (welP O B = wl) := Lib.hid (by rw [HWE.out, hwl])
      clear hz14 hzv hnd hb14 hdd hwl hn14 hl14 q0 q1 q2 q3 r0 r1 r2 r3
      go_wp2_with fail
      refine (int64_calls _ tt A14 _ c14 dd _ HZ14.out HND.out).mono ?_
      rw [HZV.out]
      rintro e w15 ⟨hb15, rfl⟩
      have hbb := below_next HB14.out hb15
      have hgf := heap_below hbb GFD.out
      have hgr := heap_below hbb GRD.out
      have z0 : w15.cell? ⟨F, 0, none⟩ = some (.int .i64 vol) := hcell hgf 0 rfl
      have z1 : w15.cell? ⟨F, 1, none⟩ = some (.int .i64 g) := hcell hgf 1 rfl
      have z2 : w15.cell? ⟨F, 2, none⟩ = some (.int .i64 0) := hcell hgf 2 rfl
      have z3 : w15.cell? ⟨F, 3, none⟩ = some (.slice A10 O.length O.length) := hcell hgf 3 rfl
      have z4 : w15.cell? ⟨F, 4, none⟩ = some (.slice A11 B.length B.length) := hcell hgf 4 rfl
      have f2 := hfree hgf 2
      have k0 : w15.cell? ⟨w.heap.size, 0, none⟩ = some (.int .i64 0) := hcell hgr 0 rfl
      have k1 : w15.cell? ⟨w.heap.size, 1, none⟩ = some (.int .i64 0) := hcell hgr 1 rfl
      have k2 : w15.cell? ⟨w.heap.size, 2, none⟩ = some (.int .i64 0) := hcell hgr 2 rfl
      have k3 : w15.cell? ⟨w.heap.size, 3, none⟩ = some (.slice none 0 0) := hcell hgr 3 rfl
      have k4 : w15.cell? ⟨w.heap.size, 4, none⟩ = some (.slice none 0 0) := hcell hgr 4 rfl
      have n0 := hfree hgr 0
      have n1 := hfree hgr 1
      have n2 := hfree hgr 2
      have n3 := hfree hgr 3
      have n4 := hfree hgr 4
      have hfw := HF0.out
      have ne1 : ¬ w.heap.size = F := by omega
      have ne2 : ¬ F = w.heap.size := by omega
      have HB15 := Lib.hid (below_next HBD.out hbb)
      have HX15 := Lib.hid (HXD.out.below hbb)
      have HY15 := Lib.hid (HYD.out.below hbb)
      have HS910 : Hid (F < w9.heap.size ∧ F < w10.heap.size) := Lib.hid (by have := HFQ.out; have := HS9.out; have := HS10.out; omega)
      clear hb15 hbb hgf hgr
      go_wp2
      refine bodyPost_ret (v := .tuple #[.agg #[.int .i64 vol, .int .i64 g, .int .i64 wl, .slice A10 O.length O.length, .slice A11 B.length B.length], .int .i64 0]) (by simp [results, Tryz.results14, go_sem, k0, k1, k2, k3, k4]) rfl ?_
      rw [HE.out]
      have h910 := HS910.out
      refine ⟨five_stores (HB15.out.setCell (p := ⟨F, 2, none⟩) (by show _ ≤ F; omega) _) (Nat.le_refl _), _, rfl, A10, A11, O.length, B.length, ?_, ?_, ?_⟩
      · show _ = Value.agg #[.int .i64 (volP O B), .int .i64 (priceP O B), .int .i64 (welP O B), .slice A10 (shareXI true O (volP O B)).length O.length, .slice A11 (shareXI false B (volP O B)).length B.length]
        rw [← HXE.out.1, ← HXE.out.2, HXL.out, HYL.out, HWL.out, ← HVD.out, ← HGD.out]
      · show Row Kd.i64 _ _ (.slice A10 (shareXI true O (volP O B)).length O.length) (shareXI true O (volP O B))
        rw [← HXE.out.1]
        have h1 := (((((HX15.out.newset (a := ⟨F, 2, none⟩) (u := .int .i64 wl) h910.1).newset (a := ⟨w.heap.size, 0, none⟩) (u := .int .i64 vol) (by show w.heap.size < _; omega)).newset (a := ⟨w.heap.size, 1, none⟩) (u := .int .i64 g) (by show w.heap.size < _; omega)).newset (a := ⟨w.heap.size, 2, none⟩) (u := .int .i64 wl) (by show w.heap.size < _; omega)).newset (a := ⟨w.heap.size, 3, none⟩) (u := .slice A10 O.length O.length) (by show w.heap.size < _; omega)).newset (a := ⟨w.heap.size, 4, none⟩) (u := .slice A11 B.length B.length) (by show w.heap.size < _; omega)
        rw [HXL.out]
        exact h1.new (by omega)
      · show Row Kd.i64 _ _ (.slice A11 (shareXI false B (volP O B)).length B.length) (shareXI false B (volP O B))
        rw [← HXE.out.2]
        have h1 := (((((HY15.out.newset (a := ⟨F, 2, none⟩) (u := .int .i64 wl) h910.2).newset (a := ⟨w.heap.size, 0, none⟩) (u := .int .i64 vol) (by show w.heap.size < _; omega)).newset (a := ⟨w.heap.size, 1, none⟩) (u := .int .i64 g) (by show w.heap.size < _; omega)).newset (a := ⟨w.heap.size, 2, none⟩) (u := .int .i64 wl) (by show w.heap.size < _; omega)).newset (a := ⟨w.heap.size, 3, none⟩) (u := .slice A10 O.length O.length) (by show w.heap.size < _; omega)).newset (a := ⟨w.heap.size, 4, none⟩) (u := .slice A11 B.length B.length) (by show w.heap.size < _; omega)
        rw [HYL.out]
        exact h1.new (by omega)
  · have HE : Hid (rr = (⟨0, 0, 0, [], []⟩, d)) := Lib.hid (by rw [HRR.out, hd]; unfold runR; rw [if_neg (hd ▸ h0)])
    have hf : (d == 0) = false := by rw [beq_eq_false_iff_ne]; exact h0
    have hf2 : (d != 0) = true := by simp [bne, hf]
    have z0 : w1.cell? ⟨w.heap.size, 0, none⟩ = some (.int .i64 0) := hcell hg 0 rfl
    have z1 : w1.cell? ⟨w.heap.size, 1, none⟩ = some (.int .i64 0) := hcell hg 1 rfl
    have z2 : w1.cell? ⟨w.heap.size, 2, none⟩ = some (.int .i64 0) := hcell hg 2 rfl
    have z3 : w1.cell? ⟨w.heap.size, 3, none⟩ = some (.slice none 0 0) := hcell hg 3 rfl
    have z4 : w1.cell? ⟨w.heap.size, 4, none⟩ = some (.slice none 0 0) := hcell hg 4 rfl
    have f0 := hfree hg 0
    have f1 := hfree hg 1
    have f2 := hfree hg 2
    have f3 := hfree hg 3
    have f4 := hfree hg 4
    clear hd h0 hg
    go_wp2
    refine bodyPost_ret (v := .tuple #[.agg #[.int .i64 0, .int .i64 0, .int .i64 0, .slice none 0 0, .slice none 0 0], .int .i64 d]) (by simp [results, Tryz.results14, go_sem, z0, z1, z2, z3, z4]) rfl ?_
    rw [HE.out]
    exact ⟨five_stores HB1.out (Nat.le_refl _), _, rfl, none, none, 0, 0, rfl, Row.nil 0 none (fun _ => rfl), Row.nil 0 none (fun _ => rfl)⟩
#print axioms run_calls
end Go.Proofs.YtlaemhigmgmgjaaGreat
