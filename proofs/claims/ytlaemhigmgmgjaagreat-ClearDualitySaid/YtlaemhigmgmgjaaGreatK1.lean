/- Several texts of my own, joined. No condition beyond what each theorem states. -/
import Derived.Test.YtlaemhigmgmgjaaGreatK0
import Derived.Deep.OwnRows
/- whole: add, sub: what they return. No condition beyond sizes. -/
namespace Go.Proofs.YtlaemhigmgmgjaaGreat
set_option linter.unusedVariables false
set_option linter.unusedSimpArgs false
open Go.RowKit Go.Shelf
attribute [local go_sem] Oper.semAt_some

def cput (s : List Nat × Nat) (v : Nat) : List Nat × Nat := (s.1 ++ [(v + s.2) % 4294967296], (v + s.2) / 4294967296)
theorem nv_snoc (l : List Nat) (x : Nat) : nv (l ++ [x]) = nv l + 4294967296 ^ l.length * x := by rw [nv_append]; simp [nv]
theorem cput_snoc (s : List Nat × Nat) (vs : List Nat) (v : Nat) : (vs ++ [v]).foldl cput s = cput (vs.foldl cput s) v := by simp
/-- What a carrier holds behind the values vs. -/
theorem cput_spec (vs : List Nat) (hv : ∀ v ∈ vs, v ≤ 8589934590) :
    (vs.foldl cput ([], 0)).1.length = vs.length ∧ WF (vs.foldl cput ([], 0)).1 ∧ (vs.foldl cput ([], 0)).2 ≤ 1 ∧ nv (vs.foldl cput ([], 0)).1 + 4294967296 ^ vs.length * (vs.foldl cput ([], 0)).2 = nv vs := by
  induction vs using snoc_ind with
  | h0 => exact ⟨rfl, fun x hx => by simp at hx, by simp, by simp [nv]⟩
  | h1 vs v ih =>
    obtain ⟨h1, h2, h3, h4⟩ := ih (fun x hx => hv x (by simp [hx]))
    have hvv := hv v (by simp)
    rw [cput_snoc]
    generalize vs.foldl cput ([], 0) = s at h1 h2 h3 h4
    refine ⟨by simp [cput, h1], ?_, ?_, ?_⟩
    · intro x hx
      simp only [cput, List.mem_append, List.mem_singleton] at hx
      rcases hx with hx | rfl
      · exact h2 x hx
      · exact Nat.mod_lt _ (by decide)
    · simp only [cput]; omega
    · simp only [cput]
      rw [nv_snoc, nv_snoc, h1, List.length_append, List.length_singleton, Nat.pow_succ, ← h4]
      have e : (v + s.2) % 4294967296 + 4294967296 * ((v + s.2) / 4294967296) = v + s.2 := Nat.mod_add_div _ _
      have : 4294967296 ^ vs.length * ((v + s.2) % 4294967296) + 4294967296 ^ vs.length * 4294967296 * ((v + s.2) / 4294967296) = 4294967296 ^ vs.length * (v + s.2) := by
        rw [Nat.mul_assoc, ← Nat.mul_add, e]
      rw [Nat.mul_add] at this
      omega
theorem getW_cons (x : Nat) (l : List Nat) (k : Nat) : getW (x :: l) (k + 1) = getW l k := by simp [getW]
theorem nv_upto_succ (f : Nat → Nat) (m : Nat) : nv (upto f (m + 1)) = nv (upto f m) + 4294967296 ^ m * f m := by rw [upto_succ, nv_snoc, upto_length]
theorem nv_upto_add (f g : Nat → Nat) (m : Nat) : nv (upto (fun k => f k + g k) m) = nv (upto f m) + nv (upto g m) := by
  induction m with
  | zero => rfl
  | succ m ih => rw [nv_upto_succ, nv_upto_succ, nv_upto_succ, ih, Nat.mul_add]; omega
theorem nv_upto_get (l : List Nat) (m : Nat) (h : l.length ≤ m) : nv (upto (getW l) m) = nv l := by
  have h1 : upto (getW l) l.length = l := by
    apply List.ext_getElem
    · simp [upto]
    · intro i h1 h2; simp [upto, getW, h2]
  induction m with
  | zero =>
    have : l = [] := List.eq_nil_of_length_eq_zero (by omega)
    rw [this]; rfl
  | succ m ih =>
    by_cases hm : l.length = m + 1
    · rw [← hm, h1]
    · rw [nv_upto_succ, ih (by omega)]
      have : getW l m = 0 := by unfold getW; rw [List.getElem?_eq_none (by omega)]; rfl
      rw [this]; simp
theorem upto_map {α β : Type} (f : Nat → α) (g : α → β) (k : Nat) : (upto f k).map g = upto (fun j => g (f j)) k := by simp [upto]

/-- The iterator over two rows. -/
theorem pairs_stops (n : Nat) (hn : 1 ≤ n) (S : Nat → Prop) (B1 B2 na ca nb cb : Nat) (Aa Ab : Option Addr) (a b : List Nat) (ha : WF a) (hb : WF b) (w : World) (hB1 : S B1) (hB2 : S B2) (hS : ∀ k, S k → k < w.heap.size)
    (h1 : w.cell? ⟨B1, 0, none⟩ = some (.slice Aa na ca)) (h2 : w.cell? ⟨B2, 0, none⟩ = some (.slice Ab nb cb))
    (ra : Row Kd.u32 (fun k _ => S k) w (.slice Aa na ca) a) (rb : Row Kd.u32 (fun k _ => S k) w (.slice Ab nb cb) b) :
    SeqStopsK Fence.wide n Tryz.prog 90 #[.pointer (some ⟨B1, 0, none⟩), .pointer (some ⟨B2, 0, none⟩)] (fun x : W2 => #[Value.int .u64 (x.1.1 : Int), Value.int .u64 (x.1.2 : Int)]) (Same S)
      (fun ys => ys = upto (pz ha hb) (max a.length b.length)) (fun pre => ∃ k, k ≤ max a.length b.length ∧ pre = upto (pz ha hb) k) (max a.length b.length) w := fun l J Jx W hW _ _ hY h0 =>
  have hsame : Same S w W := fun k hk => hW.block k (hS k hk)
  pairs1_in Fence.wide n trivial rfl hn S l B1 B2 na ca nb cb Aa Ab a b ha hb J Jx hY W ((hsame.cell hB1).trans h1) ((hsame.cell hB2).trans h2) hB1 hB2
    (ra.keep (fun k hk => hsame k hk)) (rb.keep (fun k hk => hsame k hk)) h0
set_option maxHeartbeats 400000 in
theorem pairs_calls (Aa Ab : Option Addr) (na ca nb cb : Nat) (w : World) :
    Calls Tryz.prog 69 #[.slice Aa na ca, .slice Ab nb cb] w fun e w' => e = .returned (.func (.func 90) #[] #[.pointer (some ⟨w.heap.size, 0, none⟩), .pointer (some ⟨w.heap.size + 1, 0, none⟩)]) ∧ (w.alloc (.cells #[.slice Aa na ca] 40)).alloc (.cells #[.slice Ab nb cb] 40) = w' := by
  go_enter Tryz.func69, Tryz.ntmps69
  go_wp2
  go_ret
  exact ⟨rfl, rfl⟩

set_option maxRecDepth 100000 in
set_option maxHeartbeats 2000000 in
theorem add_in (ok : Nat → Option Obj → Prop) (Aa Ab : Option Addr) (na ca nb cb : Nat) (a b : List Nat) (w : World) (ra : Row Kd.u32 ok w (.slice Aa na ca) a) (rb : Row Kd.u32 ok w (.slice Ab nb cb) b) (la : a.length ≤ 1000000000) (lb : b.length ≤ 1000000000) :
    CallsIn Fence.wide 3 Tryz.prog 94 #[.slice Aa na ca, .slice Ab nb cb] w fun e w' => ∃ A n cc l, e = .returned (.slice A n cc) ∧ Row Kd.u32 (New w.heap.size) w' (.slice A n cc) l ∧ nv l = nv a + nv b ∧ l.length = max a.length b.length + 1 ∧ Below w.heap.size w w' := by
  refine callsIn_of_wp_marks Tryz.func94 rfl trivial ?_ rfl
  simp only [Tryz.ntmps94, List.size_toArray, List.length_cons, List.length_nil, Nat.reduceAdd, Nat.reduceSub, Array.replicate_succ, Array.replicate_zero, List.push_toArray, List.append_toArray, List.nil_append, List.cons_append]
  gi_wp2_with fail
  refine ⟨trivial, (callsIn_wide.2 (carrier_calls _)).mono ?_⟩
  rintro e w1 ⟨rfl, hC, hB1, hs1⟩
  have HS1 := Lib.hid hs1
  have HC := Lib.hid hC
  have HB1 := Lib.hid hB1
  clear hs1 hC hB1
  gi_wp2_with fail
  refine ⟨trivial, (callsIn_wide.2 (pairs_calls _ _ _ _ _ _ _)).mono ?_⟩
  rintro e w2 ⟨rfl, rfl⟩
  gi_wp2_with fail
  obtain ⟨W, hW, g0, g1, g2, hB, hs⟩ := three_boxes w1 (.cells #[.func (.func 122) #[] #[.pointer (some ⟨w.heap.size + 1, 0, none⟩), .pointer (some ⟨w.heap.size, 0, none⟩)]] 142) (.cells #[.slice Aa na ca] 40) (.cells #[.slice Ab nb cb] 40)
  rw [hW]
  have hsz := HS1.out
  have hBW := below_next HB1.out hB
  obtain ⟨S, hSd⟩ : ∃ S : Nat → Prop, S = fun k => k < w.heap.size ∨ k = w1.heap.size + 1 ∨ k = w1.heap.size + 2 := ⟨_, rfl⟩
  have hS1 : S (w1.heap.size + 1) := by rw [hSd]; exact .inr (.inl rfl)
  have hS2 : S (w1.heap.size + 2) := by rw [hSd]; exact .inr (.inr rfl)
  have hSW : ∀ k, S k → k < W.heap.size := fun k hk => by rw [hSd] at hk; rcases hk with hk | hk | hk <;> omega
  have hSo : ∀ k, k < w.heap.size → S k := fun k hk => by rw [hSd]; exact .inl hk
  have hrow : ∀ {A n c l}, Row Kd.u32 ok w (.slice A n c) l → Row Kd.u32 (fun k _ => S k) W (.slice A n c) l := fun h => (h.live.mono (fun _ _ hk => hk.2.1)).keep (w' := W) (fun k hk => hBW.block k hk) |>.mono (fun _ _ hk => hSo _ hk)
  have hCW : Carrier w.heap.size w.heap.size (w.heap.size + 1) W [] 0 := by
    obtain ⟨q1, q2, q3, q4, vo, q5, q6⟩ := HC.out
    exact ⟨q1, q2, q3, heap_below hB q4, vo, heap_below hB q5, q6.below hB⟩
  have HW := Lib.hid hW
  have HS := Lib.hid hs
  have HSD := Lib.hid hSd
  have HHS := Lib.hid hSW
  have HSo := Lib.hid hSo
  have G0 := Lib.hid g0
  clear hW hs hSd hsz hSo
  refine wpIn_rangeFunc_ownG (a := _) rfl (by decide) (gf := 90) (lb := #[.pointer (some ⟨w1.heap.size + 1, 0, none⟩), .pointer (some ⟨w1.heap.size + 2, 0, none⟩)]) rfl trivial (enters_of Tryz.func90 (by kernel_rfl) rfl)
    (pairs_stops 2 (by decide) S (w1.heap.size + 1) (w1.heap.size + 2) na ca nb cb Aa Ab a b ra.wf rb.wf W hS1 hS2 hSW (hcell g1 0 rfl) (hcell g2 0 rfl) (hrow ra) (hrow rb)) (fun h k => h.trans k) (same_b hSW) (Below.refl _ _) (fun _ => rfl)
    (fun pre V => (Carrier w.heap.size w.heap.size (w.heap.size + 1) V ((pre.map fun p => p.1.1 + p.1.2).foldl cput ([], 0)).1 ((pre.map fun p => p.1.1 + p.1.2).foldl cput ([], 0)).2 ∧ V.heap[w1.heap.size]? = some (.cells #[(.func (.func 122) #[] #[.pointer (some ⟨w.heap.size + 1, 0, none⟩), .pointer (some ⟨w.heap.size, 0, none⟩)])] 142 (0, 0)) ∧ V.heap[w1.heap.size + 1]? = some (.cells #[.slice Aa na ca] 40 (0, 0)) ∧ V.heap[w1.heap.size + 2]? = some (.cells #[.slice Ab nb cb] 40 (0, 0))) ∧ Below w.heap.size w V)
    (fun _ _ _ => False) ?hI (fun _ _ _ _ _ hs _ _ => hs) ⟨⟨hCW, g0, g1, g2⟩, hBW⟩ (fun x => { tmps := #[.slice Aa na ca, .slice Ab nb cb, undef, undef, .slice none 0 0, .pointer (some ⟨w1.heap.size, 0, none⟩), (.func (.func 123) #[] #[.pointer (some ⟨w.heap.size, 0, none⟩), .pointer (some ⟨w.heap.size + 1, 0, none⟩)]), .int .u64 (x.1.1 : Int), .int .u64 (x.1.2 : Int), .tuple #[(.func (.func 122) #[] #[.pointer (some ⟨w.heap.size + 1, 0, none⟩), .pointer (some ⟨w.heap.size, 0, none⟩)]), (.func (.func 123) #[] #[.pointer (some ⟨w.heap.size, 0, none⟩), .pointer (some ⟨w.heap.size + 1, 0, none⟩)])], .tuple #[(.func (.func 122) #[] #[.pointer (some ⟨w.heap.size + 1, 0, none⟩), .pointer (some ⟨w.heap.size, 0, none⟩)]), (.func (.func 123) #[] #[.pointer (some ⟨w.heap.size, 0, none⟩), .pointer (some ⟨w.heap.size + 1, 0, none⟩)])], (.func (.func 122) #[] #[.pointer (some ⟨w.heap.size + 1, 0, none⟩), .pointer (some ⟨w.heap.size, 0, none⟩)]), (.func (.func 123) #[] #[.pointer (some ⟨w.heap.size, 0, none⟩), .pointer (some ⟨w.heap.size + 1, 0, none⟩)]), .slice Aa na ca, .slice Ab nb cb, .func (.func 90) #[] #[.pointer (some ⟨w1.heap.size + 1, 0, none⟩), .pointer (some ⟨w1.heap.size + 2, 0, none⟩)], .int .u64 (x.1.1 : Int), .int .u64 (x.1.2 : Int), undef, undef, undef, undef, undef, undef, undef], defers := [] }) ?assign ?body ?done ?stop
  case hI =>
    refine OwnFrom.and (fun s V V' row hs hg hr => ?_) (ownFrom_below (Nat.le_refl _) hBW.size)
    obtain ⟨h1, h2, h3, h4⟩ := hs
    have hr' := fun r e => (hr r e).2
    exact ⟨h1.kept hg hr', cells_kept h2 hg hr', cells_kept h3 hg hr', cells_kept h4 hg hr'⟩
  case assign =>
    intro l x W K hK
    gi_wp2
    exact hK
  case body =>
    rintro l pre x V ⟨⟨hCV, e0, e1, e2⟩, hBV⟩ hlen
    have hp : V.cell? ⟨w1.heap.size, 0, none⟩ = some (.func (.func 122) #[] #[.pointer (some ⟨w.heap.size + 1, 0, none⟩), .pointer (some ⟨w.heap.size, 0, none⟩)]) := hcell e0 0 rfl
    have hx1 := x.2.1
    have hx2 := x.2.2
    have hsp := cput_spec (pre.map fun p => p.1.1 + p.1.2) (fun v hv => by
      obtain ⟨p, _, rfl⟩ := List.mem_map.1 hv
      have := p.2.1; have := p.2.2; omega)
    have HCV := Lib.hid hCV
    have HE := Lib.hid (And.intro e0 (And.intro e1 e2))
    have HSP := Lib.hid hsp
    have HBV := Lib.hid hBV
    clear hCV e0 e1 e2 hsp hBV hrow hSW g0 g1 g2 hCW hS1 hS2 hB hBW ra rb
    gi_wp2_with fail
    have hsum : ((x.1.1 : Int) + (x.1.2 : Int)) = ((x.1.1 + x.1.2 : Nat) : Int) := by omega
    rw [hsum]
    refine ⟨trivial, CallsIn.inRound l ((callsIn_wide.2 (put_calls _ _ _ _ _ _ _ HCV.out (by rw [HSP.out.1]; simp; omega) (by omega) (by have := HSP.out.2.2.1; omega))).mono ?_)⟩
    rintro e V' ⟨rfl, hC', hB', hK', hO'⟩
    dsimp only
    gi_wp2
    have hE := HE.out
    have q1 := hO' _ _ _ _ hE.1 (by have := HS1.out; omega) (by have := HS1.out; omega) (by decide)
    have q2 := hO' _ _ _ _ hE.2.1 (by have := HS1.out; omega) (by have := HS1.out; omega) (by decide)
    have q3 := hO' _ _ _ _ hE.2.2 (by have := HS1.out; omega) (by have := HS1.out; omega) (by decide)
    refine ⟨hK'.from _, fun k hk => ?_, ⟨?_, q1, q2, q3⟩, HBV.out.trans hB'⟩
    · rw [HSD.out] at hk
      rcases hk with hk | rfl | rfl
      · exact hB'.block k hk
      · rw [q2, hE.2.1]
      · rw [q3, hE.2.2]
    · rw [List.map_append, List.map_singleton, cput_snoc]
      exact hC'
  case done =>
    rintro D ys V hD rfl ⟨⟨hCV, e0, e1, e2⟩, hBV⟩ hK
    rw [upto_map] at hCV
    have hpz : (fun j => (pz ra.wf rb.wf j).1.1 + (pz ra.wf rb.wf j).1.2) = fun j => getW a j + getW b j := rfl
    rw [hpz] at hCV
    have hsp := cput_spec (upto (fun j => getW a j + getW b j) (max a.length b.length)) (fun v hv => by
      unfold upto at hv
      obtain ⟨p, _, rfl⟩ := List.mem_map.1 hv
      have := getW_lt ra.wf p; have := getW_lt rb.wf p; omega)
    rw [nv_upto_add, nv_upto_get _ _ (Nat.le_max_left _ _), nv_upto_get _ _ (Nat.le_max_right _ _), upto_length] at hsp
    generalize (upto (fun j => getW a j + getW b j) (max a.length b.length)).foldl cput ([], 0) = st at hCV hsp
    have HCV := Lib.hid hCV
    have HSP := Lib.hid hsp
    have HBV := Lib.hid hBV
    have HK := Lib.hid hK
    have HD := Lib.hid hD
    clear hCV e0 e1 e2 hsp hBV hK hrow hSW g0 g1 g2 hCW hS1 hS2 hB hBW ra rb hpz hD
    gi_wp2_with fail
    refine ⟨trivial, (callsIn_wide.2 (all_calls _ _ _ _ _ _ HCV.out (by rw [HSP.out.1]; omega) (by have := HSP.out.2.2.1; omega))).mono ?_⟩
    rintro e V' ⟨A, n, cc, rfl, hr, hB', hKO⟩
    dsimp only
    gi_wp2
    have hK' := hKO.same D _ HK.out rfl
    refine ⟨by simp, .inl ⟨_, _, rfl, run_takeDeferred hK', ?_⟩⟩
    have hD1 : w.heap.size ≤ D := by have := HD.out; have := HS.out; have := HS1.out; omega
    refine ⟨_, results_tmp rfl _ _ _, A, n, cc, _, rfl, hr.keepcells (fun k hk => World.putObj_heap_other (fun he => ?_)), ?_, by rw [List.length_append, HSP.out.1, List.length_singleton], (HBV.out.trans hB').trans (belowK_b (w := w) (Nat.le_refl _) V' D _ _ hD1 hK' rfl rfl)⟩
    · obtain ⟨cs, e, fr, hh⟩ := hk
      subst he
      rw [hK'] at hh; cases hh
    · rw [nv_snoc, HSP.out.1]; exact HSP.out.2.2.2
  case stop =>
    rintro D c pre W _ _ h _
    exact h.elim
theorem add_calls (ok : Nat → Option Obj → Prop) (Aa Ab : Option Addr) (na ca nb cb : Nat) (a b : List Nat) (w : World) (ra : Row Kd.u32 ok w (.slice Aa na ca) a) (rb : Row Kd.u32 ok w (.slice Ab nb cb) b) (la : a.length ≤ 1000000000) (lb : b.length ≤ 1000000000) :
    Calls Tryz.prog 94 #[.slice Aa na ca, .slice Ab nb cb] w fun e w' => ∃ A n cc l, e = .returned (.slice A n cc) ∧ Row Kd.u32 (New w.heap.size) w' (.slice A n cc) l ∧ nv l = nv a + nv b ∧ l.length = max a.length b.length + 1 ∧ Below w.heap.size w w' :=
  callsIn_wide.1 (add_in ok Aa Ab na ca nb cb a b w ra rb la lb)
#print axioms add_calls
end Go.Proofs.YtlaemhigmgmgjaaGreat
/- whole: sub: what it returns. No condition beyond sizes. -/
namespace Go.Proofs.YtlaemhigmgmgjaaGreat
set_option linter.unusedVariables false
set_option linter.unusedSimpArgs false
open Go.RowKit Go.Shelf
attribute [local go_sem] Oper.semAt_some

theorem nv_upto_const (m : Nat) : nv (upto (fun _ => 4294967295) m) + 1 = 4294967296 ^ m := by
  induction m with
  | zero => rfl
  | succ m ih => rw [nv_upto_succ, Nat.pow_succ]; omega
theorem sub_spec (a b : List Nat) (ha : WF a) (hb : WF b) (hle : nv b ≤ nv a) :
    ((upto (fun j => getW a j + (4294967295 - getW b j)) (max a.length b.length)).foldl cput ([0], 1)).1.length = max a.length b.length + 1 ∧
    ((upto (fun j => getW a j + (4294967295 - getW b j)) (max a.length b.length)).foldl cput ([0], 1)).2 ≤ 1 ∧
    nv (((((upto (fun j => getW a j + (4294967295 - getW b j)) (max a.length b.length)).foldl cput ([0], 1)).1 ++ [((upto (fun j => getW a j + (4294967295 - getW b j)) (max a.length b.length)).foldl cput ([0], 1)).2]).drop 1).take (max a.length b.length)) = nv a - nv b := by
  have hsp := cput_spec (4294967296 :: upto (fun j => getW a j + (4294967295 - getW b j)) (max a.length b.length)) (fun v hv => by
    rcases List.mem_cons.1 hv with rfl | hv
    · decide
    · unfold upto at hv
      obtain ⟨p, _, rfl⟩ := List.mem_map.1 hv
      have := getW_lt ha p; omega)
  have hst : cput ([], 0) 4294967296 = ([0], 1) := by simp [cput]
  have hn : nv (upto (fun j => 4294967295 - getW b j) (max a.length b.length)) + nv b + 1 = 4294967296 ^ max a.length b.length := by
    rw [← nv_upto_const, ← nv_upto_get b _ (Nat.le_max_right a.length b.length), ← nv_upto_add]
    congr 2
    unfold upto
    refine List.map_congr_left (fun k _ => ?_)
    have := getW_lt hb k
    omega
  rw [List.foldl_cons, hst, List.length_cons, upto_length, nv, nv_upto_add, nv_upto_get a _ (Nat.le_max_left a.length b.length)] at hsp
  have hlt : nv a < 4294967296 ^ max a.length b.length := Nat.lt_of_lt_of_le (nv_lt ha) (Nat.pow_le_pow_right (by decide) (Nat.le_max_left _ _))
  generalize hX : (upto (fun j => getW a j + (4294967295 - getW b j)) (max a.length b.length)).foldl cput ([0], 1) = st at hsp ⊢
  clear hX
  generalize max a.length b.length = m at hsp hn hlt ⊢
  obtain ⟨h1, h2, h3, h4⟩ := hsp
  refine ⟨h1, h3, ?_⟩
  obtain ⟨x, r, hxr⟩ : ∃ x r, st.1 = x :: r := by
    cases hs : st.1 with
    | nil => rw [hs] at h1; simp at h1
    | cons x r => exact ⟨x, r, rfl⟩
  rw [hxr] at h1 h2 h4 ⊢
  have hrl : r.length = m := by simpa using h1
  have hx := h2 x (by simp)
  have hr : nv r < 4294967296 ^ m := by rw [← hrl]; exact nv_lt (fun y hy => h2 y (by simp [hy]))
  rw [List.cons_append, List.drop_succ_cons, List.drop_zero, List.take_left' hrl]
  rw [nv, Nat.pow_succ] at h4
  generalize nv (upto (fun j => 4294967295 - getW b j) m) = u at hn h4
  generalize 4294967296 ^ m = p at hn h4 hlt hr
  have e1 : p * 4294967296 * st.2 = 4294967296 * (p * st.2) := by rw [Nat.mul_comm p, Nat.mul_assoc]
  rw [e1] at h4
  have e2 : st.2 = 0 ∨ st.2 = 1 := by omega
  rcases e2 with e2 | e2
  · rw [e2] at h4; simp only [Nat.mul_zero] at h4; omega
  · rw [e2] at h4; simp only [Nat.mul_one] at h4; omega
theorem cput_start : cput ([], 0) 4294967296 = ([0], 1) := by simp [cput]
set_option maxRecDepth 100000 in
set_option maxHeartbeats 2000000 in
theorem sub_in (ok : Nat → Option Obj → Prop) (Aa Ab : Option Addr) (na ca nb cb : Nat) (a b : List Nat) (w : World) (ra : Row Kd.u32 ok w (.slice Aa na ca) a) (rb : Row Kd.u32 ok w (.slice Ab nb cb) b) (la : a.length ≤ 1000000000) (lb : b.length ≤ 1000000000) (hle : nv b ≤ nv a) :
    CallsIn Fence.wide 3 Tryz.prog 96 #[.slice Aa na ca, .slice Ab nb cb] w fun e w' => ∃ A n cc l, e = .returned (.slice A n cc) ∧ Row Kd.u32 (New w.heap.size) w' (.slice A n cc) l ∧ nv l = nv a - nv b ∧ l.length = max a.length b.length ∧ Below w.heap.size w w' := by
  refine callsIn_of_wp_marks Tryz.func96 rfl trivial ?_ rfl
  simp only [Tryz.ntmps96, List.size_toArray, List.length_cons, List.length_nil, Nat.reduceAdd, Nat.reduceSub, Array.replicate_succ, Array.replicate_zero, List.push_toArray, List.append_toArray, List.nil_append, List.cons_append]
  gi_wp2_with fail
  refine ⟨trivial, (callsIn_wide.2 (carrier_calls _)).mono ?_⟩
  rintro e w1 ⟨rfl, hC, hB1, hs1⟩
  have HS1 := Lib.hid hs1
  have HC1 := Lib.hid hC
  have HB1 := Lib.hid hB1
  clear hs1 hC hB1
  gi_wp2_with fail
  obtain ⟨Wp, hWp, gp, hBp, hsp⟩ := one_box w1 (.cells #[(.func (.func 122) #[] #[.pointer (some ⟨w.heap.size + 1, 0, none⟩), .pointer (some ⟨w.heap.size, 0, none⟩)])] 142)
  rw [hWp]
  have hc1 : Carrier w.heap.size w.heap.size (w.heap.size + 1) Wp [] 0 := by
    obtain ⟨q1, q2, q3, q4, vo, q5, q6⟩ := HC1.out
    exact ⟨q1, q2, q3, heap_below hBp q4, vo, heap_below hBp q5, q6.below hBp⟩
  have hput := put_calls _ _ _ _ 0 4294967296 _ hc1 (by simp) (by decide) (by decide)
  have e1 : ((4294967296 : Nat) : Int) = 4294967296 := by decide
  rw [e1] at hput
  have HP := Lib.hid hput
  clear hput e1
  refine ⟨trivial, ?_⟩
  with_reducible refine (callsIn_wide.2 HP.out).mono ?_
  clear HP
  rintro e W2 ⟨rfl, hC2', hB2, hK2, hO2⟩
  have hC2 : Carrier w.heap.size w.heap.size (w.heap.size + 1) W2 [0] 1 := by simpa using hC2'
  clear hC2'
  have gp2 := hO2 _ _ _ _ gp (by have := HS1.out; omega) (by have := HS1.out; omega) (by decide)
  have hBW2 : Below w.heap.size w W2 := (below_next HB1.out hBp).trans hB2
  have HWP := Lib.hid hsp
  have HC2 := Lib.hid hC2
  have HB2 := Lib.hid hBW2
  have GP2 := Lib.hid gp2
  have hs2 := hB2.size
  have HS2 := Lib.hid hs2
  have HBP := Lib.hid hBp
  clear hc1 hWp gp hBp hsp hC2 hB2 hK2 hO2 gp2 hBW2 hs2
  dsimp only
  gi_wp2_with fail
  refine ⟨trivial, (callsIn_wide.2 (pairs_calls _ _ _ _ _ _ _)).mono ?_⟩
  rintro e w2 ⟨rfl, rfl⟩
  dsimp only
  gi_wp2_with fail
  obtain ⟨W, hW, g1, g2, hB, hs⟩ := two_boxes W2 (.cells #[.slice Aa na ca] 40) (.cells #[.slice Ab nb cb] 40)
  rw [hW]
  have g0 := heap_below hB GP2.out
  have hsz : w1.heap.size + 1 ≤ W2.heap.size := by have := HS2.out; have := HWP.out; omega
  have hsz1 := HS1.out
  have hBW := below_next HB2.out hB
  obtain ⟨S, hSd⟩ : ∃ S : Nat → Prop, S = fun k => k < w.heap.size ∨ k = W2.heap.size ∨ k = W2.heap.size + 1 := ⟨_, rfl⟩
  have hS1 : S W2.heap.size := by rw [hSd]; exact .inr (.inl rfl)
  have hS2 : S (W2.heap.size + 1) := by rw [hSd]; exact .inr (.inr rfl)
  have hSW : ∀ k, S k → k < W.heap.size := fun k hk => by rw [hSd] at hk; rcases hk with hk | hk | hk <;> omega
  have hSo : ∀ k, k < w.heap.size → S k := fun k hk => by rw [hSd]; exact .inl hk
  have hrow : ∀ {A n c l}, Row Kd.u32 ok w (.slice A n c) l → Row Kd.u32 (fun k _ => S k) W (.slice A n c) l := fun h => (h.live.mono (fun _ _ hk => hk.2.1)).keep (w' := W) (fun k hk => hBW.block k hk) |>.mono (fun _ _ hk => hSo _ hk)
  have hCW : Carrier w.heap.size w.heap.size (w.heap.size + 1) W [0] 1 := by
    obtain ⟨q1, q2, q3, q4, vo, q5, q6⟩ := HC2.out
    exact ⟨q1, q2, q3, heap_below hB q4, vo, heap_below hB q5, q6.below hB⟩
  have HW := Lib.hid hW
  have HS := Lib.hid hs
  have HSD := Lib.hid hSd
  have HHS := Lib.hid hSW
  have HSo := Lib.hid hSo
  have G0 := Lib.hid g0
  have HSZ := Lib.hid hsz
  clear hW hs hSd hsz hsz1 hSo
  refine wpIn_rangeFunc_ownG (a := _) rfl (by decide) (gf := 90) (lb := #[.pointer (some ⟨W2.heap.size, 0, none⟩), .pointer (some ⟨W2.heap.size + 1, 0, none⟩)]) rfl trivial (enters_of Tryz.func90 (by kernel_rfl) rfl)
    (pairs_stops 2 (by decide) S W2.heap.size (W2.heap.size + 1) na ca nb cb Aa Ab a b ra.wf rb.wf W hS1 hS2 hSW (hcell g1 0 rfl) (hcell g2 0 rfl) (hrow ra) (hrow rb)) (fun h k => h.trans k) (same_b hSW) (Below.refl _ _) (fun _ => rfl)
    (fun pre V => (Carrier w.heap.size w.heap.size (w.heap.size + 1) V ((pre.map fun p => p.1.1 + 4294967295 - p.1.2).foldl cput ([0], 1)).1 ((pre.map fun p => p.1.1 + 4294967295 - p.1.2).foldl cput ([0], 1)).2 ∧ V.heap[w1.heap.size]? = some (.cells #[(.func (.func 122) #[] #[.pointer (some ⟨w.heap.size + 1, 0, none⟩), .pointer (some ⟨w.heap.size, 0, none⟩)])] 142 (0, 0)) ∧ V.heap[W2.heap.size]? = some (.cells #[.slice Aa na ca] 40 (0, 0)) ∧ V.heap[W2.heap.size + 1]? = some (.cells #[.slice Ab nb cb] 40 (0, 0))) ∧ Below w.heap.size w V)
    (fun _ _ _ => False) ?hI (fun _ _ _ _ _ hs _ _ => hs) ⟨⟨hCW, g0, g1, g2⟩, hBW⟩ (fun x => { tmps := #[.slice Aa na ca, .slice Ab nb cb, undef, undef, .slice none 0 0, .pointer (some ⟨w1.heap.size, 0, none⟩), (.func (.func 123) #[] #[.pointer (some ⟨w.heap.size, 0, none⟩), .pointer (some ⟨w.heap.size + 1, 0, none⟩)]), .int .u64 (x.1.1 : Int), .int .u64 (x.1.2 : Int), undef, .tuple #[(.func (.func 122) #[] #[.pointer (some ⟨w.heap.size + 1, 0, none⟩), .pointer (some ⟨w.heap.size, 0, none⟩)]), (.func (.func 123) #[] #[.pointer (some ⟨w.heap.size, 0, none⟩), .pointer (some ⟨w.heap.size + 1, 0, none⟩)])], .tuple #[(.func (.func 122) #[] #[.pointer (some ⟨w.heap.size + 1, 0, none⟩), .pointer (some ⟨w.heap.size, 0, none⟩)]), (.func (.func 123) #[] #[.pointer (some ⟨w.heap.size, 0, none⟩), .pointer (some ⟨w.heap.size + 1, 0, none⟩)])], (.func (.func 122) #[] #[.pointer (some ⟨w.heap.size + 1, 0, none⟩), .pointer (some ⟨w.heap.size, 0, none⟩)]), (.func (.func 123) #[] #[.pointer (some ⟨w.heap.size, 0, none⟩), .pointer (some ⟨w.heap.size + 1, 0, none⟩)]), (.func (.func 122) #[] #[.pointer (some ⟨w.heap.size + 1, 0, none⟩), .pointer (some ⟨w.heap.size, 0, none⟩)]), .tuple #[], .slice Aa na ca, .slice Ab nb cb, .func (.func 90) #[] #[.pointer (some ⟨W2.heap.size, 0, none⟩), .pointer (some ⟨W2.heap.size + 1, 0, none⟩)], .int .u64 (x.1.1 : Int), .int .u64 (x.1.2 : Int), undef, undef, undef, undef, undef, undef, undef, undef, undef, undef, undef, undef, undef, undef], defers := [] }) ?assign ?body ?done ?stop
  case hI =>
    refine OwnFrom.and (fun s V V' row hs hg hr => ?_) (ownFrom_below (Nat.le_refl _) hBW.size)
    obtain ⟨h1, h2, h3, h4⟩ := hs
    have hr' := fun r e => (hr r e).2
    exact ⟨h1.kept hg hr', cells_kept h2 hg hr', cells_kept h3 hg hr', cells_kept h4 hg hr'⟩
  case assign =>
    intro l x W K hK
    gi_wp2
    exact hK
  case body =>
    rintro l pre x V ⟨⟨hCV, e0, e1, e2⟩, hBV⟩ hlen
    have hp : V.cell? ⟨w1.heap.size, 0, none⟩ = some (.func (.func 122) #[] #[.pointer (some ⟨w.heap.size + 1, 0, none⟩), .pointer (some ⟨w.heap.size, 0, none⟩)]) := hcell e0 0 rfl
    have hx1 := x.2.1
    have hx2 := x.2.2
    have hsp := cput_spec (4294967296 :: pre.map fun p => p.1.1 + 4294967295 - p.1.2) (fun v hv => by
      rcases List.mem_cons.1 hv with rfl | hv
      · decide
      · obtain ⟨p, _, rfl⟩ := List.mem_map.1 hv
        have := p.2.1; have := p.2.2; omega)
    rw [List.foldl_cons, cput_start] at hsp
    have HCV := Lib.hid hCV
    have HE := Lib.hid (And.intro e0 (And.intro e1 e2))
    have HSP := Lib.hid hsp
    have HBV := Lib.hid hBV
    clear hCV e0 e1 e2 hsp hBV hrow hSW g0 g1 g2 hCW hS1 hS2 hB hBW ra rb
    gi_wp2_with fail
    have hsum : ((x.1.1 : Int) + 4294967296 - 1 - (x.1.2 : Int)) = ((x.1.1 + 4294967295 - x.1.2 : Nat) : Int) := by omega
    rw [hsum]
    refine ⟨trivial, CallsIn.inRound l ((callsIn_wide.2 (put_calls _ _ _ _ _ _ _ HCV.out (by rw [HSP.out.1]; simp; omega) (by omega) (by have := HSP.out.2.2.1; omega))).mono ?_)⟩
    rintro e V' ⟨rfl, hC', hB', hK', hO'⟩
    dsimp only
    gi_wp2
    have hE := HE.out
    have q1 := hO' _ _ _ _ hE.1 (by have := HS1.out; omega) (by have := HS1.out; omega) (by decide)
    have q2 := hO' _ _ _ _ hE.2.1 (by have := HS1.out; have := HSZ.out; omega) (by have := HS1.out; have := HSZ.out; omega) (by decide)
    have q3 := hO' _ _ _ _ hE.2.2 (by have := HS1.out; have := HSZ.out; omega) (by have := HS1.out; have := HSZ.out; omega) (by decide)
    refine ⟨hK'.from _, fun k hk => ?_, ⟨?_, q1, q2, q3⟩, HBV.out.trans hB'⟩
    · rw [HSD.out] at hk
      rcases hk with hk | rfl | rfl
      · exact hB'.block k hk
      · rw [q2, hE.2.1]
      · rw [q3, hE.2.2]
    · rw [List.map_append, List.map_singleton, cput_snoc]
      exact hC'
  case done =>
    rintro D ys V hD rfl ⟨⟨hCV, e0, e1, e2⟩, hBV⟩ hK
    rw [upto_map] at hCV
    have hpz : (fun j => (pz ra.wf rb.wf j).1.1 + 4294967295 - (pz ra.wf rb.wf j).1.2) = fun j => getW a j + (4294967295 - getW b j) := by
      funext j
      have := getW_lt rb.wf j
      show getW a j + 4294967295 - getW b j = _
      omega
    rw [hpz] at hCV
    have hsp := sub_spec a b ra.wf rb.wf hle
    generalize (upto (fun j => getW a j + (4294967295 - getW b j)) (max a.length b.length)).foldl cput ([0], 1) = st at hCV hsp
    have HCV := Lib.hid hCV
    have HSP := Lib.hid hsp
    have HBV := Lib.hid hBV
    have HK := Lib.hid hK
    have HD := Lib.hid hD
    clear hCV e0 e1 e2 hsp hBV hK hrow hSW g0 g1 g2 hCW hS1 hS2 hB hBW ra rb hpz hD
    gi_wp2_with fail
    refine ⟨trivial, (callsIn_wide.2 (all_calls _ _ _ _ _ _ HCV.out (by rw [HSP.out.1]; simp only [Nat.max_def]; split <;> omega) (by have := HSP.out.2.1; omega))).mono ?_⟩
    rintro e V' ⟨A, n, cc, rfl, hr, hB', hKO⟩
    obtain ⟨h1, h2, h3⟩ := HSP.out
    obtain rfl := hr.len
    obtain ⟨A', c', hv, hc, hm, hrow⟩ := hr.form
    simp only [Value.slice.injEq] at hv
    obtain ⟨rfl, _, rfl⟩ := hv
    have hlen : (st.1 ++ [st.2]).length = max a.length b.length + 2 := by rw [List.length_append, h1]; rfl
    rcases hrow with h0 | ⟨bb, off, rfl, _⟩
    · rw [h0] at hlen; simp at hlen
    · have hfin := (hr.drop 1 (by omega)).take (max a.length b.length) (by omega)
      have HF := Lib.hid hfin
      have HLEN := Lib.hid hlen
      have hcap := hc.1
      rw [hlen] at hcap ⊢
      have HR := Lib.hid hr
      have H3 := Lib.hid h3
      clear hr hfin hlen h1 h2 h3 hc hm
      dsimp only
      gi_wp2
      have hK' := hKO.same D _ HK.out rfl
      refine ⟨by simp, .inl ⟨_, _, rfl, run_takeDeferred hK', ?_⟩⟩
      have hD1 : w.heap.size ≤ D := by have := HD.out; have := HS.out; have := HS1.out; have := HSZ.out; omega
      refine ⟨_, results_tmp rfl _ _ _, _, _, _, _, rfl, HF.out.keepcells (fun k hk => World.putObj_heap_other (fun he => ?_)), H3.out, by rw [List.length_take, List.length_drop, HLEN.out]; omega, (HBV.out.trans hB').trans (belowK_b (w := w) (Nat.le_refl _) V' D _ _ hD1 hK' rfl rfl)⟩
      obtain ⟨cs, e, fr, hh⟩ := hk
      subst he
      rw [hK'] at hh; cases hh
  case stop =>
    rintro D c pre W _ _ h _
    exact h.elim
theorem sub_calls (ok : Nat → Option Obj → Prop) (Aa Ab : Option Addr) (na ca nb cb : Nat) (a b : List Nat) (w : World) (ra : Row Kd.u32 ok w (.slice Aa na ca) a) (rb : Row Kd.u32 ok w (.slice Ab nb cb) b) (la : a.length ≤ 1000000000) (lb : b.length ≤ 1000000000) (hle : nv b ≤ nv a) :
    Calls Tryz.prog 96 #[.slice Aa na ca, .slice Ab nb cb] w fun e w' => ∃ A n cc l, e = .returned (.slice A n cc) ∧ Row Kd.u32 (New w.heap.size) w' (.slice A n cc) l ∧ nv l = nv a - nv b ∧ l.length = max a.length b.length ∧ Below w.heap.size w w' :=
  callsIn_wide.1 (sub_in ok Aa Ab na ca nb cb a b w ra rb la lb hle)
#print axioms sub_calls
end Go.Proofs.YtlaemhigmgmgjaaGreat
/- whole: cmp: what it returns. No condition beyond sizes. -/
namespace Go.Proofs.YtlaemhigmgmgjaaGreat
set_option linter.unusedVariables false
set_option linter.unusedSimpArgs false
open Go.RowKit Go.Shelf
attribute [local go_sem] Oper.semAt_some

/-- The sign that the pairs so far leave. -/
def csgn (p : W2) (c : Int) : Int := if p.1.1 < p.1.2 then -1 else if p.1.2 < p.1.1 then 1 else c
theorem csgn_spec {a b : List Nat} (ha : WF a) (hb : WF b) (m : Nat) : (upto (pz ha hb) m).foldl (fun c p => csgn p c) 0 = ((nv (upto (getW a) m) : Int) - nv (upto (getW b) m)).sign := by
  induction m with
  | zero => rfl
  | succ m ih =>
    have hA : nv (upto (getW a) m) < 4294967296 ^ m := by
      have := nv_lt (l := upto (getW a) m) (fun x hx => by
        unfold upto at hx; obtain ⟨k, _, rfl⟩ := List.mem_map.1 hx; exact getW_lt ha k)
      rwa [upto_length] at this
    have hB : nv (upto (getW b) m) < 4294967296 ^ m := by
      have := nv_lt (l := upto (getW b) m) (fun x hx => by
        unfold upto at hx; obtain ⟨k, _, rfl⟩ := List.mem_map.1 hx; exact getW_lt hb k)
      rwa [upto_length] at this
    rw [upto_succ, List.foldl_append, List.foldl_cons, List.foldl_nil, ih, nv_upto_succ, nv_upto_succ]
    generalize nv (upto (getW a) m) = u at hA ⊢
    generalize nv (upto (getW b) m) = v at hB ⊢
    unfold csgn
    show (if getW a m < getW b m then -1 else if getW b m < getW a m then 1 else ((u : Int) - v).sign) = _
    generalize getW a m = x
    generalize getW b m = y
    generalize 4294967296 ^ m = q at hA hB ⊢
    by_cases h1 : x < y
    · rw [if_pos h1]
      have : q * (x + 1) ≤ q * y := Nat.mul_le_mul_left _ h1
      rw [Nat.mul_add, Nat.mul_one] at this
      exact (Int.sign_eq_neg_one_of_neg (by omega)).symm
    · rw [if_neg h1]
      by_cases h2 : y < x
      · rw [if_pos h2]
        have : q * (y + 1) ≤ q * x := Nat.mul_le_mul_left _ h2
        rw [Nat.mul_add, Nat.mul_one] at this
        exact (Int.sign_eq_one_of_pos (by omega)).symm
      · rw [if_neg h2]
        have : x = y := by omega
        subst this
        congr 1
        omega
theorem nv_ge_of_trimmed {l : List Nat} (ht : Trimmed l) (hl : l ≠ []) : 4294967296 ^ (l.length - 1) ≤ nv l := by
  have hd := List.dropLast_concat_getLast hl
  have h0 := trimmed_last ht hl
  rw [← hd, nv_snoc, List.length_dropLast]
  simp only [List.length_append, List.length_dropLast, List.length_singleton, Nat.add_sub_cancel]
  have : 4294967296 ^ (l.length - 1) * 1 ≤ 4294967296 ^ (l.length - 1) * l.getLast hl := Nat.mul_le_mul_left _ (by omega)
  omega
theorem nv_lt_of_length {a b : List Nat} (ha : WF a) (tb : Trimmed b) (h : a.length < b.length) : nv a < nv b := by
  have h1 := nv_lt ha
  have h2 := nv_ge_of_trimmed tb (by intro e; rw [e] at h; simp at h)
  have h3 : 4294967296 ^ a.length ≤ 4294967296 ^ (b.length - 1) := Nat.pow_le_pow_right (by decide) (by omega)
  omega

set_option maxRecDepth 100000 in
set_option maxHeartbeats 2000000 in
theorem cmp_in (ok : Nat → Option Obj → Prop) (Aa Ab : Option Addr) (na ca nb cb : Nat) (a b : List Nat) (w : World) (ra : Row Kd.u32 ok w (.slice Aa na ca) a) (rb : Row Kd.u32 ok w (.slice Ab nb cb) b) (la : a.length ≤ 1000000000) (lb : b.length ≤ 1000000000) :
    CallsIn Fence.wide 3 Tryz.prog 95 #[.slice Aa na ca, .slice Ab nb cb] w fun e w' => ∃ c : Int, e = .returned (.int .i64 c) ∧ I64 c ∧ (Trimmed a → Trimmed b → c.sign = ((nv a : Int) - nv b).sign) ∧ Below w.heap.size w w' := by
  obtain rfl := ra.len
  obtain rfl := rb.len
  refine callsIn_of_wp_marks Tryz.func95 rfl trivial ?_ rfl
  simp only [Tryz.ntmps95, List.size_toArray, List.length_cons, List.length_nil, Nat.reduceAdd, Nat.reduceSub, Array.replicate_succ, Array.replicate_zero, List.push_toArray, List.append_toArray, List.nil_append, List.cons_append]
  by_cases hlen : a.length = b.length
  · have hd : ((a.length : Int) - (b.length : Int)) = 0 := by omega
    have HL := Lib.hid hlen
    clear hlen
    gi_wp2_with fail
    refine ⟨trivial, (callsIn_wide.2 (pairs_calls _ _ _ _ _ _ _)).mono ?_⟩
    rintro e w2 ⟨rfl, rfl⟩
    dsimp only
    gi_wp2_with fail
    rw [World.size_alloc]
    obtain ⟨W, hW, g0, g1, g2, hB, hs⟩ := three_boxes w (.cells #[.int .i64 0] 3) (.cells #[.slice Aa a.length ca] 40) (.cells #[.slice Ab b.length cb] 40)
    rw [hW]
    obtain ⟨S, hSd⟩ : ∃ S : Nat → Prop, S = fun k => k < w.heap.size ∨ k = w.heap.size + 1 ∨ k = w.heap.size + 2 := ⟨_, rfl⟩
    have hS1 : S (w.heap.size + 1) := by rw [hSd]; exact .inr (.inl rfl)
    have hS2 : S (w.heap.size + 2) := by rw [hSd]; exact .inr (.inr rfl)
    have hSW : ∀ k, S k → k < W.heap.size := fun k hk => by rw [hSd] at hk; rcases hk with hk | hk | hk <;> omega
    have hSo : ∀ k, k < w.heap.size → S k := fun k hk => by rw [hSd]; exact .inl hk
    have hrow : ∀ {A n c l}, Row Kd.u32 ok w (.slice A n c) l → Row Kd.u32 (fun k _ => S k) W (.slice A n c) l := fun h => (h.live.mono (fun _ _ hk => hk.2.1)).keep (w' := W) (fun k hk => hB.block k hk) |>.mono (fun _ _ hk => hSo _ hk)
    have HS := Lib.hid hs
    have HSD := Lib.hid hSd
    have HD := Lib.hid hd
    clear hW hs hSd hSo hd
    refine wpIn_rangeFunc_ownG (a := _) rfl (by decide) (gf := 90) (lb := #[.pointer (some ⟨w.heap.size + 1, 0, none⟩), .pointer (some ⟨w.heap.size + 2, 0, none⟩)]) rfl trivial (enters_of Tryz.func90 (by kernel_rfl) rfl)
      (pairs_stops 2 (by decide) S (w.heap.size + 1) (w.heap.size + 2) _ ca _ cb Aa Ab a b ra.wf rb.wf W hS1 hS2 hSW (hcell g1 0 rfl) (hcell g2 0 rfl) (hrow ra) (hrow rb)) (fun h k => h.trans k) (same_b hSW) (Below.refl _ _) (fun _ => rfl)
      (fun pre V => (V.heap[w.heap.size]? = some (.cells #[.int .i64 (pre.foldl (fun c p => csgn p c) 0)] 3 (0, 0)) ∧ V.heap[w.heap.size + 1]? = some (.cells #[.slice Aa a.length ca] 40 (0, 0)) ∧ V.heap[w.heap.size + 2]? = some (.cells #[.slice Ab b.length cb] 40 (0, 0))) ∧ Below w.heap.size w V)
      (fun _ _ _ => False) ?hI (fun _ _ _ _ _ hs _ _ => hs) ⟨⟨g0, g1, g2⟩, hB⟩
      (fun x => { tmps := #[.slice Aa a.length ca, .slice Ab b.length cb, undef, undef, .int .i64 0, .int .i64 0, .pointer (some ⟨w.heap.size, 0, none⟩), .int .u64 (x.1.1 : Int), .int .u64 (x.1.2 : Int), .slice Aa a.length ca, .int .i64 a.length, .slice Ab b.length cb, .int .i64 b.length, .int .i64 0, .int .i64 0, .bool false, undef, .slice Aa a.length ca, .slice Ab b.length cb, .func (.func 90) #[] #[.pointer (some ⟨w.heap.size + 1, 0, none⟩), .pointer (some ⟨w.heap.size + 2, 0, none⟩)], .int .u64 (x.1.1 : Int), .int .u64 (x.1.2 : Int), undef, undef, undef, undef, undef, undef, undef, undef, undef], defers := [] }) ?assign ?body ?done ?stop
    case hI =>
      refine OwnFrom.and (fun s V V' row hs hg hr => ?_) (ownFrom_below (Nat.le_refl _) hB.size)
      obtain ⟨h2, h3, h4⟩ := hs
      have hr' := fun r e => (hr r e).2
      exact ⟨cells_kept h2 hg hr', cells_kept h3 hg hr', cells_kept h4 hg hr'⟩
    case assign =>
      intro l x W K hK
      gi_wp2
      exact hK
    case body =>
      rintro l pre x V ⟨⟨e0, e1, e2⟩, hBV⟩ _
      have fin : ∀ (u : Int), u = csgn x (pre.foldl (fun c p => csgn p c) 0) → ownPostG W.heap.size (Same S)
          (fun pre V => (V.heap[w.heap.size]? = some (.cells #[.int .i64 (pre.foldl (fun c p => csgn p c) 0)] 3 (0, 0)) ∧ V.heap[w.heap.size + 1]? = some (.cells #[.slice Aa a.length ca] 40 (0, 0)) ∧ V.heap[w.heap.size + 2]? = some (.cells #[.slice Ab b.length cb] 40 (0, 0))) ∧ Below w.heap.size w V)
          (fun _ _ _ => False) (pre ++ [x]) V .normal { tmps := #[], defers := [] } (V.setCell ⟨w.heap.size, 0, none⟩ (.int .i64 u)) := by
        intro u hu
        refine ⟨(KeepsOthers.setCell _ _ _).from _, fun k hk => Below.heap_setCell _ _ _ _ ?_, ⟨?_, set_far e1 (by show _ ≠ w.heap.size; omega), set_far e2 (by show _ ≠ w.heap.size; omega)⟩, hBV.setCell (p := ⟨w.heap.size, 0, none⟩) (Nat.le_refl _) _⟩
        · rw [HSD.out] at hk
          show k ≠ w.heap.size
          rcases hk with hk | hk | hk <;> omega
        · rw [List.foldl_append, List.foldl_cons, List.foldl_nil, ← hu]
          exact set_same e0
      have fin0 : csgn x (pre.foldl (fun c p => csgn p c) 0) = pre.foldl (fun c p => csgn p c) 0 → ownPostG W.heap.size (Same S)
          (fun pre V => (V.heap[w.heap.size]? = some (.cells #[.int .i64 (pre.foldl (fun c p => csgn p c) 0)] 3 (0, 0)) ∧ V.heap[w.heap.size + 1]? = some (.cells #[.slice Aa a.length ca] 40 (0, 0)) ∧ V.heap[w.heap.size + 2]? = some (.cells #[.slice Ab b.length cb] 40 (0, 0))) ∧ Below w.heap.size w V)
          (fun _ _ _ => False) (pre ++ [x]) V .normal { tmps := #[], defers := [] } V := by
        intro hu
        refine ⟨KeepsFrom.refl _ _, fun k hk => rfl, ⟨?_, e1, e2⟩, hBV⟩
        rw [List.foldl_append, List.foldl_cons, List.foldl_nil, hu]
        exact e0
      have c0 : V.cell? ⟨w.heap.size, 0, none⟩ = some (.int .i64 (pre.foldl (fun c p => csgn p c) 0)) := hcell e0 0 rfl
      have f0 := hfree e0 0
      have FIN := Lib.hid fin
      have FIN0 := Lib.hid fin0
      clear fin fin0 e0 e1 e2 hBV g0 g1 g2 hrow hSW
      by_cases h1 : x.1.1 < x.1.2
      · have hu : -1 = csgn x (pre.foldl (fun c p => csgn p c) 0) := by unfold csgn; rw [if_pos h1]
        have HU := Lib.hid hu
        clear hu
        gi_wp2
        exact FIN.out _ HU.out
      · by_cases h2 : x.1.2 < x.1.1
        · have hu : 1 = csgn x (pre.foldl (fun c p => csgn p c) 0) := by unfold csgn; rw [if_neg h1, if_pos h2]
          have HU := Lib.hid hu
          clear hu
          gi_wp2
          exact FIN.out _ HU.out
        · have hu : csgn x (pre.foldl (fun c p => csgn p c) 0) = pre.foldl (fun c p => csgn p c) 0 := by unfold csgn; rw [if_neg h1, if_neg h2]
          have HU := Lib.hid hu
          clear hu
          gi_wp2
          exact FIN0.out HU.out
    case done =>
      rintro D ys V hD rfl ⟨⟨e0, e1, e2⟩, hBV⟩ hK
      have hc := csgn_spec ra.wf rb.wf (max a.length b.length)
      rw [nv_upto_get _ _ (Nat.le_max_left _ _), nv_upto_get _ _ (Nat.le_max_right _ _)] at hc
      rw [hc] at e0
      have c0 : V.cell? ⟨w.heap.size, 0, none⟩ = some (.int .i64 ((nv a : Int) - nv b).sign) := hcell e0 0 rfl
      have HBV := Lib.hid hBV
      have HK := Lib.hid hK
      have HDD := Lib.hid hD
      clear e0 e1 e2 hBV hK hD hc g0 g1 g2 hrow hSW hB
      gi_wp2
      refine ⟨by simp, .inl ⟨_, _, rfl, run_takeDeferred HK.out, ?_⟩⟩
      have hD1 : w.heap.size ≤ D := by have := HDD.out; have := HS.out; omega
      have hI : I64 ((nv a : Int) - nv b).sign := by
        rcases Int.sign_trichotomy ((nv a : Int) - nv b) with h | h | h <;> rw [h] <;> unfold I64 <;> omega
      refine ⟨_, results_tmp rfl _ _ _, _, rfl, hI, fun _ _ => Int.sign_sign, HBV.out.trans (belowK_b (w := w) (Nat.le_refl _) V D _ _ hD1 HK.out rfl rfl)⟩
    case stop =>
      rintro D c pre W _ _ h _
      exact h.elim
  · have hd : (((a.length : Int) - (b.length : Int)) == 0) = false := by rw [beq_eq_false_iff_ne]; omega
    have HL := Lib.hid hlen
    have hwa := ra.wf
    have hwb := rb.wf
    clear hlen
    gi_wp2_with fail
    refine ⟨_, results_tmp rfl _ _ _, (a.length : Int) - (b.length : Int), rfl, ⟨by omega, by omega⟩, fun ta tb => ?_, Below.refl _ _⟩
    rcases Nat.lt_or_gt_of_ne HL.out with h | h
    · have := nv_lt_of_length hwa tb h
      rw [Int.sign_eq_neg_one_of_neg (by omega), Int.sign_eq_neg_one_of_neg (by omega)]
    · have := nv_lt_of_length hwb ta h
      rw [Int.sign_eq_one_of_pos (by omega), Int.sign_eq_one_of_pos (by omega)]
theorem cmp_calls (ok : Nat → Option Obj → Prop) (Aa Ab : Option Addr) (na ca nb cb : Nat) (a b : List Nat) (w : World) (ra : Row Kd.u32 ok w (.slice Aa na ca) a) (rb : Row Kd.u32 ok w (.slice Ab nb cb) b) (la : a.length ≤ 1000000000) (lb : b.length ≤ 1000000000) :
    Calls Tryz.prog 95 #[.slice Aa na ca, .slice Ab nb cb] w fun e w' => ∃ c : Int, e = .returned (.int .i64 c) ∧ I64 c ∧ (Trimmed a → Trimmed b → c.sign = ((nv a : Int) - nv b).sign) ∧ Below w.heap.size w w' :=
  callsIn_wide.1 (cmp_in ok Aa Ab na ca nb cb a b w ra rb la lb)
#print axioms cmp_calls
end Go.Proofs.YtlaemhigmgmgjaaGreat
/- Blocks of numbers that the call makes and writes place by place. No condition. -/
namespace Go.Proofs.YtlaemhigmgmgjaaGreat
set_option linter.unusedVariables false
set_option linter.unusedSimpArgs false
open Go.RowKit

/-- Block B holds the values l, all free to be written. -/
def Blk (e : TypeId) (w : World) (B : Nat) (l : List Value) : Prop := w.heap[B]? = some (.cells l.toArray e (0, 0))
abbrev u32s (l : List Nat) : List Value := l.map fun x : Nat => Value.int .u32 (x : Int)
section
variable {e : TypeId} {w w' : World} {B : Nat} {l : List Value}
theorem Blk.cell (h : Blk e w B l) (j : Nat) {v : Value} (hj : l[j]? = some v) : w.cell? ⟨B, j, none⟩ = some v := hcell h j (by simpa using hj)
theorem Blk.free (h : Blk e w B l) (j : Nat) : w.frozen? ⟨B, j, none⟩ = false := hfree h j
theorem Blk.set (h : Blk e w B l) (j : Nat) (v : Value) : Blk e (w.setCell ⟨B, j, none⟩ v) B (l.set j v) := by
  have := set_same (i := j) (v := v) h
  unfold Blk
  rw [this]
  simp
theorem Blk.far (h : Blk e w B l) {a : Addr} {v : Value} (hne : B ≠ a.block) : Blk e (w.setCell a v) B l := set_far h hne
theorem Blk.below (h : Blk e w B l) (hb : Below w.heap.size w w') : Blk e w' B l := heap_below hb h
theorem Blk.lt (h : Blk e w B l) : B < w.heap.size := (Array.getElem?_eq_some_iff.1 h).1
end
theorem u32s_get {l : List Nat} {j : Nat} (h : j < l.length) : (u32s l)[j]? = some (.int .u32 ((getW l j : Nat) : Int)) := by
  simp [u32s, getW, h]
theorem u32s_set (l : List Nat) (j x : Nat) : (u32s l).set j (.int .u32 (x : Int)) = u32s (l.set j x) := by simp [u32s, List.map_set]
theorem Blk.row {w : World} {B n c : Nat} {e : TypeId} {l : List Nat} (h : Blk e w B (u32s l)) (hwf : WF l) (hn : n ≤ B) (hc : l.length ≤ c) (hm : l.length ≤ 140737488355328) : Row Kd.u32 (New n) w (.slice (some ⟨B, 0, none⟩) l.length c) l :=
  row_of_block (K := Kd.u32) (enc := fun x : Nat => .int .u32 (x : Int)) _ l rfl (fun _ x hx => ⟨rfl, hwf x hx⟩) h (fun j hj => by simp [u32s, hj]) hn hc hm
theorem madeCells_eq (z : Value) (n : Nat) : madeCells #[z] n = (List.replicate n z).toArray := by
  apply Array.ext
  · simp [madeCells]
  · intro i h1 h2
    simp [madeCells, Nat.mod_one]
/-- make([]T, n), n a count. -/
theorem make_row (t e : TypeId) (z : Value) (bytes : Nat) (ht : Tryz.prog.underlying t = some (.slice e)) (hinfo : (Tryz.prog.info? e).map (fun i => (i.zero, i.size, i.bytes)) = some (some z, 1, bytes)) (hz1 : z.cells = #[z])
    (n : Nat) (z1 : Int) (hz : z1 = n) (hbytes : bytes * n ≤ 281474976710656) (h63 : n ≤ 9223372036854775807) (w : World) :
    (Instr.makeSlice t (.int .i64 z1) (.int .i64 z1)).run Tryz.prog w = .ok (.slice (some ⟨w.heap.size, 0, none⟩) n n) (w.alloc (.cells (Array.replicate n z) e)) := by
  rw [hz, run_make_row' t e z bytes ht hinfo hz1 .i64 .i64 n hbytes h63 w, madeCells_eq, List.toArray_replicate]
theorem blk_made {w : World} {B n : Nat} {e : TypeId} {z : Value} (h : w.heap[B]? = some (.cells (Array.replicate n z) e (0, 0))) : Blk e w B (List.replicate n z) := by
  unfold Blk; rw [List.toArray_replicate]; exact h
theorem getW_set_ne {l : List Nat} {i j x : Nat} (h : i ≠ j) : getW (l.set i x) j = getW l j := by simp [getW, List.getElem?_set_ne h]
theorem getW_set_eq {l : List Nat} {i x : Nat} (h : i < l.length) : getW (l.set i x) i = x := by simp [getW, h]
theorem WF.set {l : List Nat} (h : WF l) (i x : Nat) (hx : x < 4294967296) : WF (l.set i x) := fun y hy => by
  rcases List.mem_or_eq_of_mem_set hy with h1 | h1
  · exact h y h1
  · rw [h1]; exact hx
theorem WF.zeros (n : Nat) : WF (List.replicate n 0) := fun x hx => by rw [(List.mem_replicate.1 hx).2]; decide
/-- One word is turned. -/
theorem nv_set (l : List Nat) (i x : Nat) (h : i < l.length) : nv (l.set i x) + 4294967296 ^ i * getW l i = nv l + 4294967296 ^ i * x := by
  induction l generalizing i with
  | nil => simp at h
  | cons y l ih =>
    cases i with
    | zero => simp [nv, getW]; omega
    | succ i =>
      have := ih i (by simpa using h)
      rw [getW_cons, List.set_cons_succ, nv, nv, Nat.pow_succ, Nat.mul_comm (4294967296 ^ i) 4294967296, Nat.mul_assoc, Nat.mul_assoc]
      omega
theorem nv_take_succ (l : List Nat) (k : Nat) (h : k < l.length) : nv (l.take (k + 1)) = nv (l.take k) + 4294967296 ^ k * getW l k := by
  rw [List.take_succ_eq_append_getElem h, nv_snoc, List.length_take, Nat.min_eq_left (by omega)]
  simp [getW, h]
/-- What is less than a power has zeros from there on. -/
theorem getW_zero {l : List Nat} {m k : Nat} (h : nv l < 4294967296 ^ m) (hk : m ≤ k) : getW l k = 0 := by
  induction l generalizing m k with
  | nil => simp [getW]
  | cons x l ih =>
    cases m with
    | zero =>
      have h0 : nv (x :: l) = 0 := by simpa using h
      rw [nv] at h0
      cases k with
      | zero => have : x = 0 := by omega
                simp [getW, this]
      | succ k => rw [getW_cons]; exact ih (m := 0) (by simp; omega) (Nat.zero_le _)
    | succ m =>
      cases k with
      | zero => omega
      | succ k =>
        rw [getW_cons]
        refine ih (m := m) ?_ (by omega)
        rw [nv, Nat.pow_succ] at h
        omega
theorem row_cell {ok : Nat → Option Obj → Prop} {w : World} {A : Option Addr} {n c : Nat} {l : List Nat} (h : Row Kd.u32 ok w (.slice A n c) l) {k : Nat} (hk : k < l.length) :
    ∃ b off, A = some ⟨b, off, none⟩ ∧ w.cell? ⟨b, off + k, none⟩ = some (.int .u32 ((getW l k : Nat) : Int)) := by
  obtain ⟨A', c', hv, hc, hm, hr⟩ := h
  simp only [Value.slice.injEq] at hv
  obtain ⟨rfl, rfl, rfl⟩ := hv
  obtain ⟨b, off, rfl, hb, hj⟩ := hr (by omega)
  obtain ⟨x, hx, _, hcell⟩ := u32_cell hj k hk
  refine ⟨b, off, rfl, ?_⟩
  rw [hcell, hx, getW, List.getElem?_eq_getElem hk]; rfl
#print axioms nv_set
end Go.Proofs.YtlaemhigmgmgjaaGreat
/- whole: small: division by a small number. No condition beyond sizes. -/
namespace Go.Proofs.YtlaemhigmgmgjaaGreat
set_option linter.unusedVariables false
set_option linter.unusedSimpArgs false
open Go.RowKit

/-- The words above place m. -/
def topW (l : List Nat) (m : Nat) : Nat := nv (l.drop m)
theorem topW_step (l : List Nat) (m : Nat) (h : m < l.length) : topW l m = getW l m + 4294967296 * topW l (m + 1) := by
  unfold topW
  rw [List.drop_eq_getElem_cons h, nv]
  simp [getW, h]
/-- One word of the quotient. -/
theorem small_step (l q : List Nat) (n m r : Nat) (hm : m < l.length) (hq : q.length = l.length) (hz : getW q m = 0) (h : 4294967296 ^ (m + 1) * topW l (m + 1) = n * nv q + 4294967296 ^ (m + 1) * r) :
    4294967296 ^ m * topW l m = n * nv (q.set m ((r * 4294967296 + getW l m) / n)) + 4294967296 ^ m * ((r * 4294967296 + getW l m) % n) := by
  have h1 := nv_set q m ((r * 4294967296 + getW l m) / n) (by omega)
  rw [hz, Nat.mul_zero, Nat.add_zero] at h1
  have h2 := Nat.div_add_mod (r * 4294967296 + getW l m) n
  rw [topW_step l m hm, h1]
  rw [Nat.pow_succ] at h
  generalize topW l (m + 1) = t at h ⊢
  generalize getW l m = x at h1 h2 ⊢
  generalize (r * 4294967296 + x) / n = d at h1 h2 ⊢
  generalize (r * 4294967296 + x) % n = e at h2 ⊢
  generalize nv q = u at h h1 ⊢
  generalize 4294967296 ^ m = p at h h1 ⊢
  have e1 : p * (x + 4294967296 * t) = p * x + p * 4294967296 * t := by rw [Nat.mul_add, Nat.mul_assoc]
  have e2 : n * (u + p * d) = n * u + p * (n * d) := by rw [Nat.mul_add]; congr 1; rw [← Nat.mul_assoc, Nat.mul_comm n p, Nat.mul_assoc]
  rw [e1, e2, h]
  have e3 : p * (n * d) + p * e = p * (r * 4294967296 + x) := by rw [← Nat.mul_add, h2]
  have e4 : p * (r * 4294967296 + x) = p * 4294967296 * r + p * x := by rw [Nat.mul_add, Nat.mul_comm r, Nat.mul_assoc]
  omega
theorem topW_end (l : List Nat) : topW l l.length = 0 := by simp [topW, nv]
theorem topW_zero (l : List Nat) : topW l 0 = nv l := by simp [topW]

set_option maxRecDepth 100000 in
set_option maxHeartbeats 1000000 in
theorem small_calls (ok : Nat → Option Obj → Prop) (A : Option Addr) (na c n : Nat) (l : List Nat) (w : World) (h : Row Kd.u32 ok w (.slice A na c) l) (hl : l.length ≤ 2000000000) (hn : 0 < n) (hn2 : n < 4294967296) :
    Calls Tryz.prog 121 #[.slice A na c, .int .u64 (n : Int)] w fun e w' => ∃ A' c', e = .returned (.tuple #[.slice A' (dig (nv l / n)).length c', .int .u64 ((nv l % n : Nat) : Int)]) ∧ Row Kd.u32 (New w.heap.size) w' (.slice A' (dig (nv l / n)).length c') (dig (nv l / n)) ∧ Below w.heap.size w w' := by
  obtain rfl := h.len
  have hmk := make_row 40 114 (.int .u32 0) 4 Tryz.underlying40 info_u32 rfl l.length _ rfl (by omega) (by omega)
  obtain ⟨W, hW, g0, hB, hs⟩ := one_box w (.cells (Array.replicate l.length (Value.int .u32 0)) 114)
  have hblk : Blk 114 W w.heap.size (u32s (List.replicate l.length 0)) := by unfold u32s; rw [List.map_replicate]; exact blk_made g0
  have HBLK := Lib.hid hblk
  have HN := Lib.hid hn
  clear hs g0 hblk
  go_enter Tryz.func121, Tryz.ntmps121
  go_wp2_with fail
  clear hmk hW
  go_loopw [5, 13] (fun r i wr => ∃ (m k : Nat) (q : List Nat) (x : Nat), m + k = l.length ∧ i = .int .i64 k ∧ r = .int .u64 (x : Int) ∧ x < 4294967296 ∧ Hid (x < n ∧ q.length = l.length ∧ WF q ∧ (∀ j, j < m → getW q j = 0) ∧ 4294967296 ^ m * topW l m = n * nv q + 4294967296 ^ m * x) ∧ Hid (Blk 114 wr w.heap.size (u32s q)) ∧ Hid (Below w.heap.size w wr))
    (fun _ i _ => l.length - (intOf i).toNat)
  case atStart =>
    refine ⟨l.length, 0, List.replicate l.length 0, 0, rfl, rfl, rfl, by decide, ⟨HN.out, by simp, WF.zeros _, fun j hj => by simp [getW, hj], by rw [topW_end, nv_zeros]; simp⟩, HBLK.out, hB⟩
  case round =>
    obtain ⟨m, k, q, x, hmk, rfl, rfl, hx, HI, HQ, HB⟩ := hrel
    cases m with
    | zero =>
      obtain rfl : k = l.length := by omega
      obtain ⟨h1, h2, h3, h4, h5⟩ := HI.out
      have hrow := HQ.out.row (n := w.heap.size) (c := l.length) h3 (Nat.le_refl _) (by omega) (by omega)
      rw [h2] at hrow
      rw [topW_zero] at h5
      have e1 : nv l = n * nv q + x := by simpa using h5
      have e2 : nv l / n = nv q := by rw [e1, Nat.mul_add_div HN.out, Nat.div_eq_of_lt h1]; rfl
      have e3 : nv l % n = x := by rw [e1, Nat.mul_add_mod, Nat.mod_eq_of_lt h1]
      have e4 := tr_eq_dig h3
      have HE := Lib.hid (And.intro e2 (And.intro e3 e4))
      have HR := Lib.hid hrow
      have hts := hrow.trim.small
      clear h1 h2 h3 h4 h5 e1 e2 e3 e4 hrow h
      go_wp2_with fail
      refine (trim_calls _ _ _ _ _ _ HR.out).mono ?_
      rintro e w1 ⟨rfl, rfl⟩
      go_wp2
      go_ret2
      refine ⟨some ⟨w.heap.size, 0, none⟩, l.length, ?_, ?_, HB.out⟩
      · rw [HE.out.1, HE.out.2.1, ← HE.out.2.2]; rfl
      · rw [HE.out.1, ← HE.out.2.2]; exact HR.out.trim
    | succ m =>
      obtain ⟨h1, h2, h3, h4, h5⟩ := HI.out
      obtain ⟨b, off, rfl, hcell⟩ := row_cell (h.below HB.out) (k := m) (by omega)
      have hidx : (l.length : Int) - 1 - (k : Int) = (m : Int) := by omega
      have hx2 := getW_lt h.wf m
      have q1 : wr.cell? ⟨w.heap.size, m, none⟩ = some (.int .u32 ((getW q m : Nat) : Int)) := HQ.out.cell m (u32s_get (by omega))
      have q2 := HQ.out.free m
      have hk1 : (k : Int) < (l.length : Int) := by omega
      have hm1 : m < l.length := by omega
      have HM := Lib.hid hmk
      have H2 := Lib.hid h2
      clear h1 h2 h3 h4 h5 hmk h hB HBLK
      go_wp2_with fail
      have ht : ((x : Int) * 4294967296 + (getW l m : Int)) = ((x * 4294967296 + getW l m : Nat) : Int) := by omega
      rw [ht]
      clear ht
      have hxn := HI.out.1
      have hdq : (x * 4294967296 + getW l m) / n < 4294967296 := by
        rw [Nat.div_lt_iff_lt_mul HN.out]
        have : (x + 1) * 4294967296 ≤ n * 4294967296 := Nat.mul_le_mul_right _ hxn
        rw [Nat.mul_comm 4294967296 n]
        omega
      have hdr : (x * 4294967296 + getW l m) % n < n := Nat.mod_lt _ HN.out
      obtain ⟨d, hd⟩ : ∃ d, d = (x * 4294967296 + getW l m) / n := ⟨_, rfl⟩
      obtain ⟨r, hr⟩ : ∃ r, r = (x * 4294967296 + getW l m) % n := ⟨_, rfl⟩
      rw [← hd] at hdq
      rw [← hr] at hdr
      have hstep := small_step l q n m x hm1 H2.out (HI.out.2.2.2.1 m (by omega)) HI.out.2.2.2.2
      rw [← hd, ← hr] at hstep
      obtain ⟨t, ht⟩ : ∃ t, t = x * 4294967296 + getW l m := ⟨_, rfl⟩
      rw [← ht] at hd hr ⊢
      have eq : (t : Int) / (n : Int) = (d : Int) := by rw [hd]; rfl
      have er : (t : Int) % (n : Int) = (r : Int) := by rw [hr]; rfl
      have eq2 : (t : Int).tdiv (n : Int) = (d : Int) := by rw [hd]; rfl
      have er2 : (t : Int).tmod (n : Int) = (r : Int) := by rw [hr]; rfl
      have HST := Lib.hid hstep
      clear hstep hd hr ht hx2 hxn
      have hn0 : ¬ n = 0 := by omega
      have ew1 : IntKind.u64.wrap (d : Int) = (d : Int) := IntWalk.u64_in _ ⟨by omega, by omega⟩
      have ew2 : IntKind.u32.wrap (d : Int) = (d : Int) := IntWalk.u32_in _ ⟨by omega, by omega⟩
      go_region_held3 (fun _ => True) (trivial) (first | fail)
      go_wp2
      go_roundw
      case rel =>
        refine ⟨m, k + 1, q.set m d, r, by have := HM.out; omega, by go_num, rfl, by omega, ⟨hdr, by rw [List.length_set]; exact H2.out, HI.out.2.2.1.set m d hdq, fun j hj => ?_, HST.out⟩, ?_, HB.out.drew.setCell (p := ⟨w.heap.size, m, none⟩) (Nat.le_refl _) _⟩
        · rw [getW_set_ne (by omega)]; exact HI.out.2.2.2.1 j (by omega)
        · have := HQ.out.set m (.int .u32 (d : Int))
          rw [u32s_set] at this
          exact this
      case measure => simp [intOf]; omega
#print axioms small_calls
end Go.Proofs.YtlaemhigmgmgjaaGreat
/- whole: mul: what it returns. No condition beyond sizes. -/
namespace Go.Proofs.YtlaemhigmgmgjaaGreat
set_option linter.unusedVariables false
set_option linter.unusedSimpArgs false
open Go.RowKit

/-- One word of a row times a word. -/
theorem mul_step (out : List Nat) (P i k x y c T bk : Nat) (hk : i + k < out.length) (hP : P = 4294967296 ^ i) (h : nv out + 4294967296 ^ (i + k) * c = T + P * x * bk) :
    nv (out.set (i + k) ((c + (x * y + getW out (i + k))) % 4294967296)) + 4294967296 ^ (i + k + 1) * ((c + (x * y + getW out (i + k))) / 4294967296) = T + P * x * (bk + 4294967296 ^ k * y) := by
  have h1 := nv_set out (i + k) ((c + (x * y + getW out (i + k))) % 4294967296) hk
  have h2 := Nat.mod_add_div (c + (x * y + getW out (i + k))) 4294967296
  generalize (c + (x * y + getW out (i + k))) % 4294967296 = d at h1 h2 ⊢
  generalize hu : (c + (x * y + getW out (i + k))) / 4294967296 = u at h2 ⊢
  clear hu
  generalize nv (out.set (i + k) d) = v at h1 ⊢
  generalize getW out (i + k) = o at h1 h2 ⊢
  generalize nv out = n at h h1 ⊢
  have hp : P * x * (4294967296 ^ k * y) = 4294967296 ^ (i + k) * (x * y) := by
    rw [hP, Nat.pow_add]
    simp only [Nat.mul_assoc, Nat.mul_left_comm, Nat.mul_comm]
  rw [Nat.mul_add, hp, Nat.pow_succ]
  generalize 4294967296 ^ (i + k) = q at h h1 ⊢
  generalize P * x * bk = z at h ⊢
  have e1 : q * 4294967296 * u = q * (4294967296 * u) := Nat.mul_assoc _ _ _
  have e2 : q * d + q * (4294967296 * u) = q * (c + (x * y + o)) := by rw [← Nat.mul_add, h2]
  rw [Nat.mul_add, Nat.mul_add] at e2
  omega
theorem mul_last (out : List Nat) (j c T : Nat) (hj : j < out.length) (hz : getW out j = 0) (h : nv out + 4294967296 ^ j * c = T) : nv (out.set j c) = T := by
  have h1 := nv_set out j c hj
  rw [hz, Nat.mul_zero] at h1
  omega

set_option maxRecDepth 100000 in
set_option maxHeartbeats 2000000 in
theorem mul_calls (ok : Nat → Option Obj → Prop) (Aa Ab : Option Addr) (na ca nb cb : Nat) (a b : List Nat) (w : World) (ra : Row Kd.u32 ok w (.slice Aa na ca) a) (rb : Row Kd.u32 ok w (.slice Ab nb cb) b) (la : a.length ≤ 1000000000) (lb : b.length ≤ 1000000000) :
    Calls Tryz.prog 77 #[.slice Aa na ca, .slice Ab nb cb] w fun e w' => ∃ A n cc l, e = .returned (.slice A n cc) ∧ Row Kd.u32 (New w.heap.size) w' (.slice A n cc) l ∧ nv l = nv a * nv b ∧ l.length = a.length + b.length ∧ Below w.heap.size w w' := by
  obtain rfl := ra.len
  obtain rfl := rb.len
  have hmk := make_row 40 114 (.int .u32 0) 4 Tryz.underlying40 info_u32 rfl (a.length + b.length) ((a.length : Int) + (b.length : Int)) (by omega) (by omega) (by omega)
  obtain ⟨W, hW, g0, hB, hs⟩ := one_box w (.cells (Array.replicate (a.length + b.length) (Value.int .u32 0)) 114)
  have hblk : Blk 114 W w.heap.size (u32s (List.replicate (a.length + b.length) 0)) := by unfold u32s; rw [List.map_replicate]; exact blk_made g0
  have HBLK := Lib.hid hblk
  clear hs g0 hblk
  go_enter Tryz.func77, Tryz.ntmps77
  go_wp2_with fail
  clear hmk hW
  go_loopw [19] (fun i wr => ∃ (k : Nat) (out : List Nat), k ≤ a.length ∧ i = .int .i64 k ∧ Hid (out.length = a.length + b.length ∧ WF out ∧ nv out = nv (a.take k) * nv b) ∧ Hid (Blk 114 wr w.heap.size (u32s out)) ∧ Hid (Below w.heap.size w wr))
    (fun i _ => a.length - (intOf i).toNat)
  case atStart =>
    exact ⟨0, List.replicate (a.length + b.length) 0, Nat.zero_le _, rfl, ⟨by simp, WF.zeros _, by rw [nv_zeros]; simp [nv]⟩, HBLK.out, hB⟩
  case round =>
    obtain ⟨i, out, hi, rfl, HI, HQ, HB⟩ := hrel
    by_cases hlt : i < a.length
    · obtain ⟨ba, oa, rfl, hca⟩ := row_cell (ra.below HB.out) hlt
      have hx := getW_lt ra.wf i
      obtain ⟨x, hxd⟩ : ∃ x, x = getW a i := ⟨_, rfl⟩
      rw [← hxd] at hca hx
      have HX := Lib.hid hxd
      have HHB := Lib.hid hB
      clear hxd hB HBLK
      go_wp2_with fail
      obtain ⟨wo, rfl⟩ : ∃ wo : World, wo = wr := ⟨_, rfl⟩
      go_loopw [8, 26] (fun cv j wr => ∃ (k c : Nat) (o2 : List Nat), k ≤ b.length ∧ j = .int .i64 k ∧ cv = .int .u64 (c : Int) ∧ c < 4294967296 ∧ Hid (o2.length = a.length + b.length ∧ WF o2 ∧ (∀ j, i + k ≤ j → getW o2 j = getW out j) ∧ nv o2 + 4294967296 ^ (i + k) * c = nv out + 4294967296 ^ i * x * nv (b.take k)) ∧ Hid (Blk 114 wr w.heap.size (u32s o2)) ∧ Hid (Below w.heap.size w wr))
        (fun _ j _ => b.length - (intOf j).toNat)
      case atStart => exact ⟨0, 0, out, Nat.zero_le _, rfl, rfl, by decide, ⟨HI.out.1, HI.out.2.1, fun _ _ => rfl, by simp [nv]⟩, HQ, HB⟩
      case round =>
        obtain ⟨k, c, o2, hk, rfl, rfl, hc, HI2, HQ2, HB2⟩ := hrel
        by_cases hkb : k < b.length
        · obtain ⟨bb, ob, rfl, hcb⟩ := row_cell (rb.below HB2.out) hkb
          have hik : i + k < o2.length := by have := HI2.out.1; omega
          have hy := getW_lt rb.wf k
          obtain ⟨y, hyd⟩ : ∃ y, y = getW b k := ⟨_, rfl⟩
          rw [← hyd] at hcb hy
          have q1 : wr.cell? ⟨w.heap.size, i + k, none⟩ = some (.int .u32 ((getW o2 (i + k) : Nat) : Int)) := HQ2.out.cell (i + k) (u32s_get hik)
          have q2 := HQ2.out.free (i + k)
          have ho := getW_lt HI2.out.2.1 (i + k)
          obtain ⟨o, hod⟩ : ∃ o, o = getW o2 (i + k) := ⟨_, rfl⟩
          rw [← hod] at q1 ho
          have hxy : x * y ≤ 4294967295 * 4294967295 := Nat.mul_le_mul (by omega) (by omega)
          obtain ⟨p, hp⟩ : ∃ p, p = x * y := ⟨_, rfl⟩
          rw [← hp] at hxy
          obtain ⟨s, hs⟩ : ∃ s, s = p + o := ⟨_, rfl⟩
          obtain ⟨t, ht⟩ : ∃ t, t = c + s := ⟨_, rfl⟩
          have e1 : IntKind.u64.wrap ((x : Int) * (y : Int)) = (p : Int) := by rw [← Int.natCast_mul, ← hp]; exact IntWalk.u64_in _ ⟨by omega, by omega⟩
          have e2 : IntKind.u64.wrap ((p : Int) + (o : Int)) = (s : Int) := by rw [hs, Int.natCast_add]; exact IntWalk.u64_in _ ⟨by omega, by omega⟩
          have e3 : IntKind.u64.wrap ((c : Int) + (s : Int)) = (t : Int) := by rw [ht, Int.natCast_add]; exact IntWalk.u64_in _ ⟨by omega, by omega⟩
          have htc : t / 4294967296 < 4294967296 := by omega
          have hst := mul_step o2 (4294967296 ^ i) i k x y c (nv out) (nv (b.take k)) hik rfl HI2.out.2.2.2
          have etx : c + (x * y + getW o2 (i + k)) = t := by rw [ht, hs, hp, hod]
          rw [etx] at hst
          have HST := Lib.hid hst
          have HY := Lib.hid hyd
          have HTC := Lib.hid htc
          have HIK := Lib.hid hik
          clear hst hyd hod hp hs ht hxy htc etx hik
          go_wp2
          go_roundw
          case rel =>
            refine ⟨k + 1, t / 4294967296, o2.set (i + k) (t % 4294967296), by omega, by go_num, rfl, HTC.out, ⟨by rw [List.length_set]; exact HI2.out.1, HI2.out.2.1.set _ _ (Nat.mod_lt _ (by decide)), fun j hj => by rw [getW_set_ne (by omega)]; exact HI2.out.2.2.1 j (by omega), ?_⟩, ?_, HB2.out.setCell (p := ⟨w.heap.size, i + k, none⟩) (Nat.le_refl _) _⟩
            · rw [nv_take_succ _ _ hkb, ← HY.out, ← Nat.add_assoc]; exact HST.out
            · have := HQ2.out.set (i + k) (.int .u32 ((t % 4294967296 : Nat) : Int))
              rw [u32s_set] at this
              exact this
          case measure => simp [intOf]; omega
        · obtain rfl : k = b.length := by omega
          have hik : i + b.length < o2.length := by have := HI2.out.1; omega
          have q1 : wr.cell? ⟨w.heap.size, i + b.length, none⟩ = some (.int .u32 ((getW o2 (i + b.length) : Nat) : Int)) := HQ2.out.cell (i + b.length) (u32s_get hik)
          have q2 := HQ2.out.free (i + b.length)
          have hz : getW o2 (i + b.length) = 0 := by
            rw [HI2.out.2.2.1 _ (Nat.le_refl _)]
            refine getW_zero (m := i + b.length) ?_ (Nat.le_refl _)
            rw [HI.out.2.2, Nat.pow_add]
            have h1 := nv_lt (l := a.take i) (fun y hy => ra.wf y (List.mem_of_mem_take hy))
            rw [List.length_take, Nat.min_eq_left (by omega)] at h1
            exact Nat.mul_lt_mul'' h1 (nv_lt rb.wf)
          have hlast := mul_last o2 (i + b.length) c _ hik hz HI2.out.2.2.2
          rw [List.take_length, HI.out.2.2, HX.out, ← Nat.add_mul, ← nv_take_succ _ _ hlt] at hlast
          have HL := Lib.hid hlast
          have HIK := Lib.hid hik
          clear hlast hz hik
          go_wp2
          go_roundw
          case rel =>
            refine ⟨i + 1, o2.set (i + b.length) c, by omega, by go_num, ⟨by rw [List.length_set]; exact HI2.out.1, HI2.out.2.1.set _ _ hc, HL.out⟩, ?_, HB2.out.setCell (p := ⟨w.heap.size, i + b.length, none⟩) (Nat.le_refl _) _⟩
            have := HQ2.out.set (i + b.length) (.int .u32 (c : Int))
            rw [u32s_set] at this
            exact this
          case measure => simp [intOf]; omega
    · obtain rfl : i = a.length := by omega
      have hrow := HQ.out.row (n := w.heap.size) (c := a.length + b.length) HI.out.2.1 (Nat.le_refl _) (by have := HI.out.1; omega) (by have := HI.out.1; omega)
      rw [HI.out.1] at hrow
      have HR := Lib.hid hrow
      clear hrow HBLK
      go_wp2
      go_ret
      exact ⟨_, _, _, out, rfl, HR.out, by rw [HI.out.2.2, List.take_length], HI.out.1, HB.out⟩
#print axioms mul_calls
end Go.Proofs.YtlaemhigmgmgjaaGreat
/- whole: div: what it returns. No condition beyond sizes. -/
namespace Go.Proofs.YtlaemhigmgmgjaaGreat
set_option linter.unusedVariables false
set_option linter.unusedSimpArgs false
open Go.RowKit

theorem dig_small {n : Nat} (h : n < 4294967296) : tr [n] = dig n := by
  have := tr_eq_dig (l := [n]) (fun x hx => by simp at hx; omega)
  simpa [nv] using this

theorem row_word {w : World} {n r : Nat} {e : TypeId} (hr : r < 4294967296) (hn : n ≤ w.heap.size) : Row Kd.u32 (New n) (w.alloc (.cells #[.int .u32 (r : Int)] e)) (.slice (some ⟨w.heap.size, 0, none⟩) 1 1) [r] :=
  row_of_block (K := Kd.u32) (enc := fun x : Nat => .int .u32 (x : Int)) #[.int .u32 (r : Int)] [r] rfl (fun _ x hx => ⟨rfl, by simp at hx; omega⟩) (alloc_last rfl) (fun j hj => by
    have : j = 0 := by simpa using hj
    subst this; rfl) hn (by simp) (by simp)

set_option maxRecDepth 100000 in
set_option maxHeartbeats 1000000 in
theorem div_one (ok : Nat → Option Obj → Prop) (Aa Ab : Option Addr) (na ca cb : Nat) (a : List Nat) (b0 : Nat) (w : World) (ra : Row Kd.u32 ok w (.slice Aa na ca) a) (rb : Row Kd.u32 ok w (.slice Ab 1 cb) [b0]) (la : a.length ≤ 500000000) (hb0 : 0 < b0) :
    Calls Tryz.prog 103 #[.slice Aa na ca, .slice Ab 1 cb] w fun e w' => ∃ A c A' c', e = .returned (.tuple #[.slice A (dig (nv a / b0)).length c, .slice A' (dig (nv a % b0)).length c']) ∧
      Row Kd.u32 (New w.heap.size) w' (.slice A (dig (nv a / b0)).length c) (dig (nv a / b0)) ∧ Row Kd.u32 (New w.heap.size) w' (.slice A' (dig (nv a % b0)).length c') (dig (nv a % b0)) ∧ Below w.heap.size w w' := by
  obtain ⟨bb, ob, rfl, hcb⟩ := row_cell rb (k := 0) (by simp)
  have hb1 : b0 < 4294967296 := rb.wf b0 (by simp)
  have hg : getW [b0] 0 = b0 := rfl
  rw [hg, Nat.add_zero] at hcb
  have hmod : nv a % b0 < 4294967296 := Nat.lt_trans (Nat.mod_lt _ hb0) hb1
  have hds := dig_small hmod
  obtain ⟨r, hr⟩ : ∃ r, r = nv a % b0 := ⟨_, rfl⟩
  obtain ⟨Q, hQ⟩ : ∃ Q, Q = dig (nv a / b0) := ⟨_, rfl⟩
  have hsm := small_calls ok Aa na ca b0 a w ra (by omega) hb0 hb1
  rw [← hr] at hmod hds hsm ⊢
  rw [← hQ] at hsm ⊢
  have HSM := Lib.hid hsm
  have HD := Lib.hid hds
  clear hsm hds hr hQ ra rb hg
  go_enter Tryz.func103, Tryz.ntmps103
  go_wp2_with fail
  refine HSM.out.mono ?_
  rintro e w1 ⟨A, c, rfl, hr1, hB1⟩
  have hq := hr1.small
  have HR1 := Lib.hid hr1
  have HB1 := Lib.hid hB1
  clear hr1 hB1
  have hm0 : ((r : Int)) % 4294967296 = (r : Int) := by omega
  go_wp2_with fail
  refine (trim_calls (New w1.heap.size) _ _ _ [r] _ (row_word hmod (Nat.le_refl _))).mono ?_
  rintro e w2 ⟨rfl, rfl⟩
  rw [HD.out]
  go_wp2
  go_ret2
  have hrr := (row_word (w := w1) (e := 114) hmod HB1.out.size).trim
  rw [HD.out] at hrr
  exact ⟨A, c, _, 1, rfl, HR1.out.below (below_alloc _ _), hrr, below_next HB1.out (below_alloc _ _)⟩

/-- One word of a quotient by a magnitude. -/
theorem dig_cons (x : Nat) (R : Nat) (hx : x < 4294967296) : tr (x :: dig R) = dig (x + 4294967296 * R) := by
  have := tr_eq_dig (l := x :: dig R) (fun y hy => by
    rcases List.mem_cons.1 hy with rfl | hy
    · exact hx
    · exact wf_dig R y hy)
  rw [this, nv, nv_dig]
theorem sign_le (a b : Nat) (c : Int) (h : c.sign = ((a : Int) - b).sign) : c ≤ 0 ↔ a ≤ b := by
  have h1 : ∀ z : Int, z ≤ 0 ↔ z.sign ≤ 0 := by
    intro z
    rcases Int.lt_trichotomy z 0 with hz | hz | hz
    · rw [Int.sign_eq_neg_one_of_neg hz]; omega
    · subst hz; simp
    · rw [Int.sign_eq_one_of_pos hz]; omega
  rw [h1 c, h, ← h1]
  omega

set_option maxRecDepth 100000 in
set_option maxHeartbeats 4000000 in
theorem div_many (ok : Nat → Option Obj → Prop) (Aa Ab : Option Addr) (na ca nb cb : Nat) (a b : List Nat) (w : World) (ra : Row Kd.u32 ok w (.slice Aa na ca) a) (rb : Row Kd.u32 ok w (.slice Ab nb cb) b) (la : a.length ≤ 500000000) (lb : b.length ≤ 500000000) (hb1 : b.length ≠ 1) (hb0 : 0 < nv b) (tb : Trimmed b) :
    Calls Tryz.prog 103 #[.slice Aa na ca, .slice Ab nb cb] w fun e w' => ∃ A c A' c', e = .returned (.tuple #[.slice A (dig (nv a / nv b)).length c, .slice A' (dig (nv a % nv b)).length c']) ∧
      Row Kd.u32 (New w.heap.size) w' (.slice A (dig (nv a / nv b)).length c) (dig (nv a / nv b)) ∧ Row Kd.u32 (New w.heap.size) w' (.slice A' (dig (nv a % nv b)).length c') (dig (nv a % nv b)) ∧ Below w.heap.size w w' := by
  obtain rfl := ra.len
  obtain rfl := rb.len
  have hmk := make_row 40 114 (.int .u32 0) 4 Tryz.underlying40 info_u32 rfl a.length _ rfl (by omega) (by omega)
  obtain ⟨W, hW, g0, hB, hs⟩ := one_box w (.cells (Array.replicate a.length (Value.int .u32 0)) 114)
  have hblk : Blk 114 W w.heap.size (u32s (List.replicate a.length 0)) := by unfold u32s; rw [List.map_replicate]; exact blk_made g0
  have HBLK := Lib.hid hblk
  have hne : ((b.length : Int) == 1) = false := by rw [beq_eq_false_iff_ne]; omega
  have HB0 := Lib.hid hb0
  have HS := Lib.hid hs
  have HB := Lib.hid hB
  clear hs g0 hblk hb1 hb0 hB
  go_enter Tryz.func103, Tryz.ntmps103
  go_wp2_with fail
  clear hmk hW
  have hsz := HB.out.size
  go_loopw [5, 35] (fun rv i wr => ∃ (m k R : Nat) (q : List Nat) (Ar : Option Addr) (cr : Nat), m + k = a.length ∧ i = .int .i64 k ∧ rv = .slice Ar (dig R).length cr ∧ Hid (R < nv b ∧ q.length = a.length ∧ WF q ∧ (∀ j, j < m → getW q j = 0) ∧ 4294967296 ^ m * topW a m = nv b * nv q + 4294967296 ^ m * R) ∧ Hid (Blk 114 wr w.heap.size (u32s q)) ∧ Hid (Row Kd.u32 (New (w.heap.size + 1)) wr (.slice Ar (dig R).length cr) (dig R)) ∧ Hid (Below w.heap.size w wr) ∧ Hid (w.heap.size + 1 ≤ wr.heap.size))
    (fun _ i _ => a.length - (intOf i).toNat)
  case atStart =>
    refine ⟨a.length, 0, 0, List.replicate a.length 0, none, 0, rfl, rfl, by rw [dig_zero]; rfl, ⟨HB0.out, by simp, WF.zeros _, fun j hj => by simp [getW, hj], by rw [topW_end, nv_zeros]; simp⟩, HBLK.out, by unfold Hid; rw [dig_zero]; exact Row.nil _ _ (fun _ => rfl), HB.out, by have := HS.out; unfold Hid; omega⟩
  case round =>
    obtain ⟨m, k, R, q, Ar, cr, hmk, rfl, rfl, HI, HQ, HR, HBW, HSZ⟩ := hrel
    clear HB HBLK HS hsz
    cases m with
    | zero =>
      obtain rfl : k = a.length := by omega
      obtain ⟨h1, h2, h3, h4, h5⟩ := HI.out
      have hrow := HQ.out.row (n := w.heap.size) (c := a.length) h3 (Nat.le_refl _) (by omega) (by omega)
      rw [h2] at hrow
      rw [topW_zero] at h5
      have e1 : nv a = nv b * nv q + R := by simpa using h5
      have e2 : nv a / nv b = nv q := by rw [e1, Nat.mul_add_div HB0.out, Nat.div_eq_of_lt h1]; rfl
      have e3 : nv a % nv b = R := by rw [e1, Nat.mul_add_mod, Nat.mod_eq_of_lt h1]
      have e4 := tr_eq_dig h3
      have HE := Lib.hid (And.intro e2 (And.intro e3 e4))
      have HR1 := Lib.hid hrow
      have hts := hrow.trim.small
      clear h1 h2 h3 h4 h5 e1 e2 e3 e4 hrow ra rb
      go_wp2_with fail
      refine (trim_calls _ _ _ _ _ _ HR1.out).mono ?_
      rintro e w1 ⟨rfl, rfl⟩
      go_wp2
      go_ret2
      refine ⟨some ⟨w.heap.size, 0, none⟩, a.length, Ar, cr, ?_, ?_, ?_, HBW.out⟩
      · rw [HE.out.1, HE.out.2.1, ← HE.out.2.2]; rfl
      · rw [HE.out.1, ← HE.out.2.2]; exact HR1.out.trim
      · rw [HE.out.2.1]; exact HR.out.new (Nat.le_succ _)
    | succ m =>
      have hidx : (a.length : Int) - 1 - (k : Int) = (m : Int) := by omega
      have hm1 : m < a.length := by omega
      have hk1 : (k : Int) < (a.length : Int) := by omega
      obtain ⟨ba, oa, rfl, hca⟩ := row_cell (ra.below HBW.out) hm1
      have hx := getW_lt ra.wf m
      obtain ⟨x, hxd⟩ : ∃ x, x = getW a m := ⟨_, rfl⟩
      rw [← hxd] at hca hx
      have HX := Lib.hid hxd
      have HM := Lib.hid hmk
      have hrl := HR.out.small
      have hdl : (dig R).length ≤ b.length := dig_length_le (Nat.lt_trans HI.out.1 (nv_lt rb.wf))
      clear hmk hxd
      go_wp2_with (at_builtin; refine wp_append_row Kd.u32 rfl _ _ 40 rfl 114 _ 4 Tryz.underlying40 info_u32 rfl (by decide) wr.heap.size (fun _ _ => False) _ [x] rfl ?hown _ (dig R) rfl (New (w.heap.size + 1)) ?hrow (fun _ _ h => h) ?hby ?hba ?_)
      case hown => exact Own.built Kd.u32 114 wr.heap.size wr #[.int .u32 (x : Int)] [x] [[.int .u32 (x : Int)]] rfl rfl (Nat.le_refl _) (by simp) (fun j h h' => by
        have : j = 0 := by simpa using h
        subst this
        exact ⟨rfl, hx⟩)
      case hrow => exact HR.out.below (below_alloc _ _)
      case hby => simp; omega
      case hba => simp
      intro v' w1 hown hg hat
      have hB1 : Below wr.heap.size wr w1 := below_grown (below_alloc wr _) hg (fun k hk => by simp [Value.ownBlock] at hk; omega)
      obtain ⟨A1, c1, rfl⟩ := hown.form
      have hr1 := hown.new (m := wr.heap.size) (fun _ _ h => h.elim) (Nat.le_refl _)
      have HR1 := Lib.hid hr1
      have HB1 := Lib.hid hB1
      clear hown hg hat hr1 hB1 hrl
      go_wp2_with fail
      refine (trim_calls _ _ _ _ _ _ HR1.out).mono ?_
      rintro e w2 ⟨rfl, rfl⟩
      have hcons := dig_cons x R hx
      rw [hcons]
      have hr2 := HR1.out.trim
      rw [hcons] at hr2
      obtain ⟨T, hT⟩ : ∃ T, T = x + 4294967296 * R := ⟨_, rfl⟩
      rw [← hT] at hr2 ⊢
      have HR2 := Lib.hid hr2
      have HT := Lib.hid hT
      clear hr2 hT hcons HR1
      have hB2 := below_next HBW.out HB1.out
      have HBW2 := Lib.hid hB2
      have HQ2 := Lib.hid (HQ.out.below HB1.out)
      have hTlt : T < nv b * 4294967296 := by
        rw [HT.out]
        have : (R + 1) * 4294967296 ≤ nv b * 4294967296 := Nat.mul_le_mul_right _ HI.out.1
        omega
      have HTL := Lib.hid hTlt
      have hdT : (dig T).length ≤ b.length + 1 := dig_length_le (by
        rw [Nat.pow_succ]
        exact Nat.lt_trans hTlt (Nat.mul_lt_mul_of_pos_right (nv_lt rb.wf) (by decide)))
      have hshort : (dig T).length < b.length → Trimmed b → T < nv b := fun h1 h2 => by
        have := nv_lt_of_length (wf_dig T) h2 h1
        rwa [nv_dig] at this
      have HSH := Lib.hid hshort
      have hs1 := HB1.out.size
      have HSZ1 := Lib.hid (Nat.le_trans HSZ.out hs1)
      clear hB2 hTlt hshort HQ hs1 hx hca hidx HR
      by_cases hlen : (dig T).length < b.length
      all_goals
        dsimp only
        go_wp2_with fail
        obtain ⟨wo, hwo⟩ : ∃ wo : World, wo = w1 := ⟨_, rfl⟩
        clear hwo
        go_loopw [10, 11] (fun lov hiv wx => ∃ lo hi : Nat, lov = .int .u64 (lo : Int) ∧ hiv = .int .u64 (hi : Int) ∧ lo < hi ∧ hi ≤ 4294967296 ∧ Hid (lo * nv b ≤ T ∧ T < hi * nv b) ∧ Hid (Blk 114 wx w.heap.size (u32s q)) ∧ Hid (Row Kd.u32 (New wr.heap.size) wx (.slice A1 (dig T).length c1) (dig T)) ∧ Hid (Below w.heap.size w wx) ∧ Hid (w.heap.size + 1 ≤ wx.heap.size))
          (fun lov hiv _ => ((intOf hiv) - (intOf lov)).toNat)
        case atStart =>
          first
            | exact ⟨0, 1, rfl, rfl, by omega, by omega, ⟨by omega, by have := HSH.out hlen tb; omega⟩, HQ2.out, HR2.out, HBW2.out, HSZ1.out⟩
            | exact ⟨0, 4294967296, rfl, rfl, by omega, by omega, ⟨by omega, by have := HTL.out; rw [Nat.mul_comm]; exact this⟩, HQ2.out, HR2.out, HBW2.out, HSZ1.out⟩
        case round =>
          obtain ⟨lo, hi, rfl, rfl, hlh, hhi, HI3, HQ3, HR3, HB3, HS3⟩ := hrel
          have rbw := rb.below HB3.out
          have rbt := rbw.mono (ok' := fun _ _ => True) (fun _ _ _ => trivial)
          have RBT := Lib.hid rbt
          clear rbw rbt HQ2 HR2 HBW2 HSZ1 HB1
          by_cases hgt : lo + 1 < hi
          · obtain ⟨mid, hmid⟩ : ∃ mid, mid = (lo + hi) / 2 := ⟨_, rfl⟩
            have hm1 : lo < mid := by omega
            have hm2 : mid < hi := by omega
            have e1 : ((lo : Int) + (hi : Int)) / 2 = (mid : Int) := by omega
            have e2 : ((lo : Int) + (hi : Int)).tdiv 2 = (mid : Int) := by rw [Int.tdiv_eq_ediv_of_nonneg (by omega)]; exact e1
            have hgi : (1 : Int) < (hi : Int) - (lo : Int) := by omega
            have HMID := Lib.hid hmid
            clear hmid hgt
            go_wp2_with fail
            refine (mul_calls (fun _ _ => True) _ _ _ _ _ _ b [mid] _ (RBT.out.below (below_alloc _ _)) ((row_word (w := wr) (n := wr.heap.size) (r := mid) (by omega) (Nat.le_refl _)).mono (fun _ _ _ => trivial)) (by omega) (by simp)).mono ?_
            rintro e w3 ⟨A3, n3, c3, l3, rfl, hr3, hn3, hl3, hB4⟩
            obtain rfl := hr3.len
            have HR4 := Lib.hid hr3
            have HB4 := Lib.hid (below_next (below_alloc _ _) hB4)
            have HL3 := Lib.hid (And.intro hn3 hl3)
            clear hr3 hn3 hl3 hB4
            go_wp2_with fail
            refine (trim_calls _ _ _ _ _ _ HR4.out).mono ?_
            rintro e w4 ⟨rfl, rfl⟩
            go_wp2_with fail
            refine (cmp_calls (fun _ _ => True) _ _ _ _ _ _ (tr l3) (dig T) _ (HR4.out.trim.mono (fun _ _ _ => trivial)) ((HR3.out.below HB4.out).mono (fun _ _ _ => trivial)) (by have h1 := tr_length l3; have h2 := HL3.out.2; simp at h2; omega) (by omega)).mono ?_
            rintro e w5 ⟨c5, rfl, hc5, hs5, hB5⟩
            have hle := sign_le _ _ _ (hs5 (tr_tr _) (trimmed_dig _))
            rw [nv_tr, nv_dig, HL3.out.1] at hle
            have hnm : nv [mid] = mid := by simp [nv]
            rw [hnm, Nat.mul_comm] at hle
            have HLE := Lib.hid hle
            have HB5 := Lib.hid (below_next HB4.out hB5)
            clear hle hs5 hB5 hnm
            by_cases hc : c5 ≤ 0
            · go_wp2
              go_roundw
              case rel => (repeat apply Exists.intro); refine ⟨⟨mid, hi, rfl, rfl, hm2, hhi, ⟨HLE.out.1 hc, HI3.out.2⟩, HQ3.out.below HB5.out, HR3.out.below HB5.out, below_next HB3.out HB5.out, Nat.le_trans HS3.out HB5.out.size⟩, ?_⟩; rfl
              case measure => simp [intOf]; omega
            · go_wp2
              go_roundw
              case rel => (repeat apply Exists.intro); refine ⟨⟨lo, mid, rfl, rfl, hm1, by omega, ⟨HI3.out.1, by have := mt HLE.out.2 (by omega); omega⟩, HQ3.out.below HB5.out, HR3.out.below HB5.out, below_next HB3.out HB5.out, Nat.le_trans HS3.out HB5.out.size⟩, ?_⟩; rfl
              case measure => simp [intOf]; omega
          · obtain rfl : hi = lo + 1 := by omega
            have hqm : m < q.length := by have := HI.out.2.1; omega
            have q1 : wr.cell? ⟨w.heap.size, m, none⟩ = some (.int .u32 ((getW q m : Nat) : Int)) := HQ3.out.cell m (u32s_get hqm)
            have q2 := HQ3.out.free m
            have hlo : lo < 4294967296 := by omega
            have hle : nv b * lo ≤ T := by have := HI3.out.1; rw [Nat.mul_comm]; exact this
            have hdv : T / nv b = lo := by
              have := HI3.out
              exact Nat.div_eq_of_lt_le this.1 this.2
            have hmd : T - nv b * lo = T % nv b := by rw [← hdv]; exact Nat.sub_eq_of_eq_add (by rw [Nat.add_comm]; exact (Nat.div_add_mod T (nv b)).symm)
            have HDV := Lib.hid hdv
            have HMD := Lib.hid hmd
            have HLE := Lib.hid hle
            have hbs := HB3.out.setCell (p := ⟨w.heap.size, m, none⟩) (Nat.le_refl _) (.int .u32 (lo : Int))
            have hrt := HR3.out.newset (a := ⟨w.heap.size, m, none⟩) (u := .int .u32 (lo : Int)) HSZ.out
            have hqs := HQ3.out.set m (.int .u32 (lo : Int))
            rw [u32s_set] at hqs
            have hss : w.heap.size + 1 ≤ (wr.setCell ⟨w.heap.size, m, none⟩ (.int .u32 (lo : Int))).heap.size := by rw [World.size_setCell]; exact HS3.out
            obtain ⟨WS, hWS⟩ : ∃ WS : World, wr.setCell ⟨w.heap.size, m, none⟩ (.int .u32 (lo : Int)) = WS := ⟨_, rfl⟩
            rw [hWS] at hbs hrt hqs hss
            have HBS := Lib.hid hbs
            have HRT := Lib.hid hrt
            have HQS := Lib.hid hqs
            have HSS := Lib.hid hss
            have hLO := Lib.hid hlo
            clear hdv hmd hle hgt hlh hhi hbs hrt hqs hss
            go_wp2_with fail
            clear hWS q1 q2
            refine (mul_calls (fun _ _ => True) _ _ _ _ _ _ b [lo] _ (((rb.below HBS.out).below (below_alloc _ _)).mono (fun _ _ _ => trivial)) ((row_word (w := WS) (n := WS.heap.size) (r := lo) hLO.out (Nat.le_refl _)).mono (fun _ _ _ => trivial)) (by omega) (by simp)).mono ?_
            rintro e w3 ⟨A3, n3, c3, l3, rfl, hr3, hn3, hl3, hB4⟩
            obtain rfl := hr3.len
            have HR4 := Lib.hid hr3
            have HB4 := Lib.hid (below_next (below_alloc _ _) hB4)
            have HL3 := Lib.hid (And.intro hn3 hl3)
            clear hr3 hn3 hl3 hB4
            go_wp2_with fail
            refine (trim_calls _ _ _ _ _ _ HR4.out).mono ?_
            rintro e w4 ⟨rfl, rfl⟩
            have hnm : nv [lo] = lo := by simp [nv]
            have hv : nv (tr l3) = nv b * lo := by rw [nv_tr, HL3.out.1, hnm]
            have htl : (tr l3).length ≤ b.length + 1 := by have h1 := tr_length l3; have h2 := HL3.out.2; simp at h2; omega
            have HV := Lib.hid hv
            have HTL2 := Lib.hid htl
            clear hv hnm htl
            go_wp2_with fail
            refine (sub_calls (fun _ _ => True) _ _ _ _ _ _ (dig T) (tr l3) _ ((HRT.out.below HB4.out).mono (fun _ _ _ => trivial)) (HR4.out.trim.mono (fun _ _ _ => trivial)) (by omega) (by have := HTL2.out; omega) (by rw [HV.out, nv_dig]; exact HLE.out)).mono ?_
            rintro e w5 ⟨A5, n5, c5, l5, rfl, hr5, hn5, hl5, hB5⟩
            obtain rfl := hr5.len
            rw [nv_dig, HV.out, HMD.out] at hn5
            have he5 := tr_eq_dig hr5.wf
            rw [hn5] at he5
            have HE5 := Lib.hid he5
            have HR5 := Lib.hid hr5
            have HB5 := Lib.hid (below_next HB4.out hB5)
            have HS5 := Lib.hid (Nat.le_trans HSS.out HB4.out.size)
            clear hn5 hr5 hB5 he5 hl5
            go_wp2_with fail
            refine (trim_calls _ _ _ _ _ _ HR5.out).mono ?_
            rintro e w6 ⟨rfl, rfl⟩
            rw [HE5.out]
            have hr6 := HR5.out.trim
            rw [HE5.out] at hr6
            have HR6 := Lib.hid (hr6.new HS5.out)
            clear hr6
            have hst := small_step a q (nv b) m R hm1 HI.out.2.1 (HI.out.2.2.2.1 m (Nat.lt_succ_self _)) HI.out.2.2.2.2
            have hTe : R * 4294967296 + getW a m = T := by rw [HT.out, HX.out, Nat.mul_comm]; omega
            rw [hTe, HDV.out] at hst
            have HST := Lib.hid hst
            clear hst hTe
            go_wp2
            go_roundw
            case rel => exact ⟨m, k + 1, T % nv b, q.set m lo, A5, c5, by have := HM.out; omega, by go_num, rfl, ⟨Nat.mod_lt _ HB0.out, by rw [List.length_set]; exact HI.out.2.1, HI.out.2.2.1.set _ _ hLO.out, fun j hj => by rw [getW_set_ne (by omega)]; exact HI.out.2.2.2.1 j (by omega), HST.out⟩, HQS.out.below HB5.out, HR6.out, below_next HBS.out HB5.out, Nat.le_trans HSS.out HB5.out.size⟩
            case measure => simp [intOf]; omega

theorem div_calls (ok : Nat → Option Obj → Prop) (Aa Ab : Option Addr) (na ca nb cb : Nat) (a b : List Nat) (w : World) (ra : Row Kd.u32 ok w (.slice Aa na ca) a) (rb : Row Kd.u32 ok w (.slice Ab nb cb) b) (la : a.length ≤ 500000000) (lb : b.length ≤ 500000000) (hb0 : 0 < nv b) (tb : Trimmed b) :
    Calls Tryz.prog 103 #[.slice Aa na ca, .slice Ab nb cb] w fun e w' => ∃ A c A' c', e = .returned (.tuple #[.slice A (dig (nv a / nv b)).length c, .slice A' (dig (nv a % nv b)).length c']) ∧
      Row Kd.u32 (New w.heap.size) w' (.slice A (dig (nv a / nv b)).length c) (dig (nv a / nv b)) ∧ Row Kd.u32 (New w.heap.size) w' (.slice A' (dig (nv a % nv b)).length c') (dig (nv a % nv b)) ∧ Below w.heap.size w w' := by
  by_cases h : b.length = 1
  · obtain ⟨b0, rfl⟩ := List.length_eq_one_iff.1 h
    obtain rfl := rb.len
    have e : nv [b0] = b0 := by simp [nv]
    rw [e] at hb0 ⊢
    exact div_one ok Aa Ab na ca cb a b0 w ra rb la hb0
  · exact div_many ok Aa Ab na ca nb cb a b w ra rb la lb h hb0 tb
#print axioms div_calls
end Go.Proofs.YtlaemhigmgmgjaaGreat
