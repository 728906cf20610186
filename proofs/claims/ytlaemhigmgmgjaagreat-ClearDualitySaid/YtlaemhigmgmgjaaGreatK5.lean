/- Several texts of my own, joined. No condition beyond what each theorem states. -/
import Derived.Test.YtlaemhigmgmgjaaGreatK4
import Derived.Test.YtlaemhigmgmgjaaGreatK1
import Derived.Maps.RangeWalk
import Derived.Test.YtlaemhigmgmgjaaGreatProg
import Derived.Shelf.SlSortCmp.NoneTotal
import Derived.Ground.SlsfProg
import Derived.Deep.DeepCutAuto
import Derived.Test.YtlaemhigmgmgjaaGreatK0
import Derived.Deep.AppendLies
import Derived.Deep.RegionHeldLaw
/- stack: the levels of a merge in memory: a map from prices to levels, each with its parts. No condition. -/
namespace Go.Proofs.YtlaemhigmgmgjaaGreat
set_option linter.unusedVariables false
set_option linter.unusedSimpArgs false
open Go.RowKit
open Go.Maps (Keyed)

/-! ### Curves so far -/
def part (L : List Crv) (i k : Nat) : List Crv := L.mapIdx fun j c => if j < i then c else if j = i then c.take k else []
theorem part_len (L : List Crv) (i k : Nat) : (part L i k).length = L.length := by simp [part]
theorem part_get {L : List Crv} {i k j : Nat} (hj : j < (part L i k).length) : (part L i k)[j] = if j < i then L[j]'(by simpa [part] using hj) else if j = i then (L[j]'(by simpa [part] using hj)).take k else [] := by
  simp [part]
theorem part_zero (L : List Crv) : part L 0 0 = List.replicate L.length [] := by
  apply List.ext_getElem (by simp [part])
  intro j h1 h2
  rw [part_get]
  simp
theorem part_all (L : List Crv) : part L L.length 0 = L := by
  apply List.ext_getElem (by simp [part])
  intro j h1 h2
  rw [part_get, if_pos h2]
theorem part_next (L : List Crv) (i : Nat) (hi : i < L.length) : part L i L[i].length = part L (i + 1) 0 := by
  apply List.ext_getElem (by simp [part])
  intro j h1 h2
  rw [part_get, part_get]
  by_cases hj : j < i
  · rw [if_pos hj, if_pos (by omega)]
  · rw [if_neg hj]
    by_cases he : j = i
    · subst he
      rw [if_pos rfl, if_pos (by omega), List.take_length]
    · rw [if_neg he, if_neg (by omega)]
      by_cases h3 : j = i + 1
      · rw [if_pos h3, List.take_zero]
      · rw [if_neg h3]
theorem part_step (L : List Crv) (i k : Nat) (hi : i < L.length) (hk : k < L[i].length) : part L i (k + 1) = (part L i k).set i ((part L i k)[i]'(by rw [part_len]; exact hi) ++ [L[i][k]]) := by
  apply List.ext_getElem (by simp [part])
  intro j h1 h2
  simp only [List.getElem_set, part_get]
  by_cases he : i = j
  · subst he
    simp only [Nat.lt_irrefl, if_false, if_true]
    exact List.take_succ_eq_append_getElem hk
  · have he' : ¬ j = i := fun e => he e.symm
    by_cases hj : j < i
    · simp [he, hj]
    · simp [he, hj, he']
theorem part_at (L : List Crv) (i k : Nat) (hi : i < L.length) : (part L i k)[i]'(by rw [part_len]; exact hi) = L[i].take k := by
  rw [part_get, if_neg (by omega), if_pos rfl]

/-- No price twice, each step within its bounds. -/
def Good (c : Crv) : Prop := c.Pairwise (fun s t => s.2 ≠ t.2) ∧ ∀ s ∈ c, StepIn s
theorem Good.take {c : Crv} (h : Good c) (k : Nat) : Good (c.take k) := ⟨h.1.sublist (List.take_sublist _ _), fun s hs => h.2 s (List.mem_of_mem_take hs)⟩
theorem good_curve {up : Bool} {c : Crv} (h : curveE (afterOf up) c = 0) : Good c := ⟨curveE_apart h, (curveE_in h).2.2⟩
theorem good_part {L : List Crv} {i k : Nat} (h : ∀ j (hj : j < L.length), j ≤ i → Good L[j]) : ∀ c ∈ part L i k, Good c := by
  intro c hc
  obtain ⟨j, hj, rfl⟩ := List.getElem_of_mem hc
  rw [part_get]
  have hj' : j < L.length := by simpa [part] using hj
  by_cases h1 : j < i
  · rw [if_pos h1]; exact h j hj' (by omega)
  · rw [if_neg h1]
    by_cases h2 : j = i
    · rw [if_pos h2]; exact (h j hj' (by omega)).take k
    · rw [if_neg h2]; exact ⟨List.Pairwise.nil, fun s hs => absurd hs (by simp)⟩
theorem qAt_le : ∀ {c : Crv}, Good c → ∀ p, 0 ≤ qAt c p ∧ qAt c p ≤ 1000000
  | [], _, p => by simp [qAt]
  | s :: c, h, p => by
    obtain ⟨h1, h2⟩ := List.pairwise_cons.1 h.1
    have hs := h.2 s (by simp)
    have hc : Good c := ⟨h2, fun t ht => h.2 t (List.mem_cons_of_mem _ ht)⟩
    have ih := qAt_le hc p
    unfold StepIn at hs
    by_cases hp : s.2 = p
    · have h0 : qAt c p = 0 := qAt_none fun t ht e => h1 t ht (by rw [hp, e])
      have : qAt (s :: c) p = s.1 + qAt c p := by unfold qAt; rw [List.filter_cons_of_pos (by simpa using hp)]; simp
      omega
    · have : qAt (s :: c) p = qAt c p := by unfold qAt; rw [List.filter_cons_of_neg (by simpa using hp)]
      omega
theorem parts_le {M : List Crv} (h : ∀ c ∈ M, Good c) (p : Int) : ∀ x ∈ partsAt M p, 0 ≤ x ∧ x ≤ 1000000 := by
  intro x hx
  obtain ⟨c, hc, rfl⟩ := List.mem_map.1 hx
  exact qAt_le (h c hc) p
theorem parts_sum_le {M : List Crv} (h : ∀ c ∈ M, Good c) (p : Int) : 0 ≤ (partsAt M p).sum ∧ (partsAt M p).sum ≤ 1000000 * M.length := by
  have := sum_le (partsAt M p) (parts_le h p) (partsAt M p).length (Nat.le_refl _)
  rw [List.take_length, partsAt_len] at this
  exact this

/-! ### The map -/
abbrev DW := DataW Unit
/-- A pointer reads as the number of its block. -/
def ptrElem (v : Value) : Option (DW × List MemPlace) := match v with
  | .pointer (some ⟨b, 0, none⟩) => some (.lit (.int .i64 b), [])
  | .pointer none => some (.lit (.int .i64 (-1)), [])
  | _ => none
theorem ptr_inv {v : Value} {b : Nat} {ps : List MemPlace} (h : ptrElem v = some (.lit (.int .i64 b), ps)) : v = .pointer (some ⟨b, 0, none⟩) := by
  unfold ptrElem at h
  split at h
  · simp only [Option.some.injEq, Prod.mk.injEq, DataW.lit.injEq, Lit.int.injEq, true_and] at h
    obtain ⟨h1, _⟩ := h
    have : _ = b := Int.ofNat.inj h1
    rw [this]
  · simp only [Option.some.injEq, Prod.mk.injEq, DataW.lit.injEq, Lit.int.injEq, true_and] at h
    omega
  · cases h
theorem i64_keyed : Keyed Tryz.prog 2 := Maps.int_keyed Tryz.underlying2
theorem key_i64 {p : Int} (h : I64 p) : keyOf Tryz.prog 2 (.int .i64 p) = some (.int .i64 p) := Maps.keyOf_int_mk Tryz.underlying2 (WalkArith.wf_i64 h)
theorem zero_ptr (w : World) : (zeroValue 124).run Tryz.prog w = .ok (.pointer none) w := by kernel_rfl

/-- The levels of the prices keys in memory, each with its parts: found through a map. -/
structure Lvls (w : World) (B base n : Nat) (keys : List Int) (M : List Crv) (bl pa : Int → Nat) : Prop where
  map : ∃ D : DW, w.ownsMap Tryz.prog 2 ptrElem B keys.length D ∧ ∀ p, I64 p → (Maps.has D (.int .i64 p) = decide (p ∈ keys) ∧ (p ∈ keys → ∀ zd, D.atKey (.int .i64 p) zd = .lit (.int .i64 (bl p))))
  cells : ∀ p ∈ keys, w.heap[bl p]? = some (.cells #[.int .i64 p, .int .i64 (partsAt M p).sum, .slice (some ⟨pa p, 0, none⟩) n n] 105 (0, 0)) ∧
    w.heap[pa p]? = some (.cells ((partsAt M p).map (Value.int .i64)).toArray 2 (0, 0))
  apart : ∀ p ∈ keys, ∀ q ∈ keys, bl p ≠ pa q ∧ (bl p = bl q → p = q) ∧ (pa p = pa q → p = q)
  from_ : ∀ p ∈ keys, base ≤ bl p ∧ base ≤ pa p ∧ I64 p
  before : B < base
section
variable {w w' : World} {B base n : Nat} {keys : List Int} {M : List Crv} {bl pa : Int → Nat}
theorem Lvls.below (h : Lvls w B base n keys M bl pa) (hb : Below w.heap.size w w') : Lvls w' B base n keys M bl pa := by
  obtain ⟨⟨D, h1, h2⟩, h3, h4, h5, h6⟩ := h
  exact ⟨⟨D, h1.kept (row := none) ⟨hb.os, hb.tape, hb.output, hb.size, fun i hi _ => hb.block i hi⟩ (by simp), h2⟩, fun p hp => ⟨heap_below hb (h3 p hp).1, heap_below hb (h3 p hp).2⟩, h4, h5, h6⟩
theorem Lvls.heap (h : Lvls w B base n keys M bl pa) (e : w'.heap = w.heap) : Lvls w' B base n keys M bl pa := by
  obtain ⟨⟨D, ⟨es, cl, g1, g2⟩, h2⟩, h3, h4, h5, h6⟩ := h
  exact ⟨⟨D, ⟨es, cl, by rw [e]; exact g1, g2⟩, h2⟩, fun p hp => by rw [e]; exact h3 p hp, h4, h5, h6⟩
theorem Lvls.look (h : Lvls w B base n keys M bl pa) {p : Int} (hp : I64 p) :
    (p ∉ keys ∧ (Instr.lookup 123 (.map (some B)) (.int .i64 p) true).run Tryz.prog w = .ok (.tuple #[.pointer none, .bool false]) w) ∨
    (p ∈ keys ∧ (Instr.lookup 123 (.map (some B)) (.int .i64 p) true).run Tryz.prog w = .ok (.tuple #[.pointer (some ⟨bl p, 0, none⟩), .bool true]) w) := by
  obtain ⟨⟨D, h1, h2⟩, _⟩ := h
  obtain ⟨v, ps, hrun, hv⟩ := h1.look_ok i64_keyed Tryz.underlying123 (zero_ptr w) (zd := .lit (.int .i64 (-1))) (zp := []) rfl (key_i64 hp)
  obtain ⟨h3, h4⟩ := h2 p hp
  rw [h3] at hrun
  by_cases hk : p ∈ keys
  · rw [h4 hk] at hv
    rw [ptr_inv hv] at hrun
    exact .inr ⟨hk, by rw [hrun]; simp [hk]⟩
  · rw [Maps.atKey_of_not_has (by rw [h3]; simp [hk])] at hv
    have e : v = .pointer none := by
      unfold ptrElem at hv
      split at hv
      · simp only [Option.some.injEq, Prod.mk.injEq, DataW.lit.injEq, Lit.int.injEq, true_and] at hv
        omega
      · rfl
      · cases hv
    rw [e] at hrun
    exact .inl ⟨hk, by rw [hrun]; simp [hk]⟩
theorem Lvls.find (h : Lvls w B base n keys M bl pa) {p : Int} (hp : I64 p) : ∃ v f, (Instr.lookup 123 (.map (some B)) (.int .i64 p) true).run Tryz.prog w = .ok (.tuple #[v, .bool f]) w ∧ ((f = false ∧ v = .pointer none ∧ p ∉ keys) ∨ (f = true ∧ v = .pointer (some ⟨bl p, 0, none⟩) ∧ p ∈ keys)) := by
  rcases h.look hp with ⟨h1, h2⟩ | ⟨h1, h2⟩
  · exact ⟨_, _, h2, .inl ⟨rfl, rfl, h1⟩⟩
  · exact ⟨_, _, h2, .inr ⟨rfl, rfl, h1⟩⟩
/-- One more step of curve i at a price that is there. -/
theorem Lvls.step (h : Lvls w B base n keys M bl pa) {i : Nat} (hi : i < M.length) {s : Int × Int} (hk : s.2 ∈ keys) (hs : ∀ t ∈ M[i], t.2 ≠ s.2) :
    Lvls ((w.setCell ⟨bl s.2, 1, none⟩ (.int .i64 ((partsAt M s.2).sum + s.1))).setCell ⟨pa s.2, i, none⟩ (.int .i64 s.1)) B base n keys (M.set i (M[i] ++ [s])) bl pa := by
  obtain ⟨⟨D, h1, h2⟩, h3, h4, h5, h6⟩ := h
  have hb := h5 s.2 hk
  refine ⟨⟨D, (h1.setCell (by show B ≠ bl s.2; omega) _).setCell (by show B ≠ pa s.2; omega) _, h2⟩, fun p hp => ?_, h4, h5, h6⟩
  obtain ⟨c1, c2⟩ := h3 p hp
  by_cases e : p = s.2
  · subst e
    have a1 := (h4 _ hp _ hp).1
    rw [sum_step hi hs, partsAt_step hi hs]
    refine ⟨set_far (set_same c1) a1, ?_⟩
    have := set_same (i := i) (v := .int .i64 s.1) (set_far (a := ⟨bl s.2, 1, none⟩) (v := .int .i64 ((partsAt M s.2).sum + s.1)) c2 (fun e => a1 e.symm))
    rw [this, List.map_set]
    simp
  · rw [partsAt_other hi e]
    have a1 := h4 _ hp _ hk
    have a2 := h4 _ hk _ hp
    exact ⟨set_far (set_far c1 (fun x => e (a1.2.1 x))) a1.1, set_far (set_far c2 (fun x => a2.1 x.symm)) (fun x => e (a1.2.2 x))⟩
/-- One more price. -/
theorem Lvls.add (h : Lvls w B base n keys M bl pa) {p : Int} (hp : I64 p) (hk : p ∉ keys) (hz : partsAt M p = List.replicate n 0) {a b : Nat} (hab : a ≠ b) (ha : w.heap.size ≤ a) (hb : w.heap.size ≤ b) (hbase : base ≤ w.heap.size)
    {D : DW} (h1 : w.ownsMap Tryz.prog 2 ptrElem B keys.length D) (h2 : ∀ p, I64 p → (Maps.has D (.int .i64 p) = decide (p ∈ keys) ∧ (p ∈ keys → ∀ zd, D.atKey (.int .i64 p) zd = .lit (.int .i64 (bl p)))))
    (hD : w'.ownsMap Tryz.prog 2 ptrElem B (keys.length + 1) (D.put (.int .i64 p) (.lit (.int .i64 b)))) (hg : ∀ k, k < w.heap.size → k ≠ B → w'.heap[k]? = w.heap[k]?)
    (hB : w'.heap[b]? = some (.cells #[.int .i64 p, .int .i64 0, .slice (some ⟨a, 0, none⟩) n n] 105 (0, 0))) (hA : w'.heap[a]? = some (.cells (List.replicate n (Value.int .i64 0)).toArray 2 (0, 0))) :
    Lvls w' B base n (p :: keys) M (fun x => if x = p then b else bl x) (fun x => if x = p then a else pa x) := by
  obtain ⟨_, h3, h4, h5, h6⟩ := h
  have hlt : ∀ q ∈ keys, bl q < w.heap.size ∧ pa q < w.heap.size := fun q hq => ⟨(Array.getElem?_eq_some_iff.1 (h3 q hq).1).1, (Array.getElem?_eq_some_iff.1 (h3 q hq).2).1⟩
  have hne : ∀ q ∈ keys, q ≠ p := fun q hq e => hk (e ▸ hq)
  refine ⟨⟨_, hD, fun q hq => ?_⟩, fun q hq => ?_, fun q hq r hr => ?_, fun q hq => ?_, h6⟩
  · obtain ⟨e1, e2⟩ := h2 q hq
    by_cases hqp : q = p
    · subst hqp
      refine ⟨by rw [Maps.has_put_same h1.isMap (show WideAt.IsKeyLit (Lit.int .i64 q) from trivial)]; simp, fun _ zd => ?_⟩
      rw [Maps.atKey_put_same h1.isMap (show WideAt.IsKeyLit (Lit.int .i64 q) from trivial), if_pos rfl]
    · have hne' : (Lit.int .i64 q) ≠ (Lit.int .i64 p) := fun e => hqp (by injection e)
      refine ⟨by rw [Maps.has_put_other hne', e1]; simp [hqp], fun hm zd => ?_⟩
      rw [Maps.atKey_put_other hne', if_neg hqp]
      exact e2 ((List.mem_cons.1 hm).resolve_left hqp) zd
  · rcases List.mem_cons.1 hq with rfl | hq
    · rw [if_pos rfl, if_pos rfl, hz]
      refine ⟨?_, ?_⟩
      · rw [hB]; simp
      · rw [hA]; simp
    · rw [if_neg (hne q hq), if_neg (hne q hq), hg _ (hlt q hq).1 (by have := h5 q hq; omega), hg _ (hlt q hq).2 (by have := h5 q hq; omega)]
      exact h3 q hq
  · rcases List.mem_cons.1 hq with e1 | hq' <;> rcases List.mem_cons.1 hr with e2 | hr'
    · subst e1 e2; simp; exact fun e => hab e.symm
    · have := hlt r hr'
      subst e1
      simp only [if_true, if_neg (hne r hr')]
      exact ⟨by omega, fun e => absurd e (by omega), fun e => absurd e (by omega)⟩
    · have := hlt q hq'
      subst e2
      simp only [if_true, if_neg (hne q hq')]
      exact ⟨by omega, fun e => absurd e (by omega), fun e => absurd e (by omega)⟩
    · simp only [if_neg (hne q hq'), if_neg (hne r hr')]
      exact h4 q hq' r hr'
  · rcases List.mem_cons.1 hq with rfl | hq
    · simp only [if_true]; exact ⟨by omega, by omega, hp⟩
    · simp only [if_neg (hne q hq)]; exact h5 q hq
end
#print axioms Lvls.add
end Go.Proofs.YtlaemhigmgmgjaaGreat
/-
  DERIVED: THE SHELF's CONTRACTS AT THIS DUMP, IN PLAIN WORDS (tools/lay-plain.mjs out of 'YtlaemhigmgmgjaaGreatSlay.lean', which tools/lay-shelf.mjs wrote): THE SAME DECLARATIONS UNDER THE SAME NAMES: 'import', 'namespace', 'open', 'def', 'theorem' AND NOTHING ELSE: no command of the shelf's: FOR A HAND-IN. Each laying: the table of numbers ('.._ren') and one theorem, a field a fact of the dump's own or the kernel's comparison; each contract: ONE APPLICATION.
-/
namespace Go.Proofs
open Go.Shelf
def Tryz.sortL_ren : Go.Shelf.Ren := ⟨fun | 6 => 85 | 15 => 100 | 14 => 99 | 28 => 117 | 29 => 118 | 20 => 109 | 21 => 110 | 22 => 111 | 23 => 112 | 24 => 113 | 25 => 114 | 26 => 115 | 27 => 116 | 46 => 126 | 47 => 127 | 48 => 128 | 49 => 129 | 50 => 130 | 57 => 132 | n => n, fun | 22 => 70 | 24 => 105 | 25 => 127 | 3 => 3 | 39 => 111 | 0 => 0 | 53 => 114 | 55 => 107 | 4 => 4 | 46 => 152 | 45 => 151 | 50 => 156 | 5 => 5 | 9 => 9 | 66 => 165 | 70 => 169 | 76 => 172 | 77 => 173 | n => n, fun | n => n⟩
theorem Tryz.sortL : Go.Proofs.SlLaysF0.n6 Tryz.prog Tryz.sortL_ren := {
  mixed := by kernel_rfl
  f6 := ⟨Tryz.f85.name, by decide, Tryz.func85.trans (congrArg some (by kernel_rfl))⟩
  f14 := ⟨Tryz.f99.name, by decide, Tryz.func99.trans (congrArg some (by kernel_rfl))⟩
  f15 := Tryz.func100.trans (congrArg some (by kernel_rfl))
  f20 := ⟨Tryz.f109.name, by decide, Tryz.func109.trans (congrArg some (by kernel_rfl))⟩
  f21 := ⟨Tryz.f110.name, by decide, Tryz.func110.trans (congrArg some (by kernel_rfl))⟩
  f22 := ⟨Tryz.f111.name, by decide, Tryz.func111.trans (congrArg some (by kernel_rfl))⟩
  f23 := ⟨Tryz.f112.name, by decide, Tryz.func112.trans (congrArg some (by kernel_rfl))⟩
  f24 := ⟨Tryz.f113.name, by decide, Tryz.func113.trans (congrArg some (by kernel_rfl))⟩
  f25 := ⟨Tryz.f114.name, by decide, Tryz.func114.trans (congrArg some (by kernel_rfl))⟩
  f26 := ⟨Tryz.f115.name, by decide, Tryz.func115.trans (congrArg some (by kernel_rfl))⟩
  f27 := ⟨Tryz.f116.name, by decide, Tryz.func116.trans (congrArg some (by kernel_rfl))⟩
  f28 := Tryz.func117.trans (congrArg some (by kernel_rfl))
  f29 := Tryz.func118.trans (congrArg some (by kernel_rfl))
  f46 := ⟨Tryz.f126.name, by decide, Tryz.func126.trans (congrArg some (by kernel_rfl))⟩
  f47 := Tryz.func127.trans (congrArg some (by kernel_rfl))
  f48 := Tryz.func128.trans (congrArg some (by kernel_rfl))
  f49 := ⟨Tryz.f129.name, by decide, Tryz.func129.trans (congrArg some (by kernel_rfl))⟩
  f50 := ⟨Tryz.f130.name, by decide, Tryz.func130.trans (congrArg some (by kernel_rfl))⟩
  f57 := ⟨Tryz.f132.name, by decide, Tryz.func132.trans (congrArg some (by kernel_rfl))⟩
  t0 := Tryz.underlying0
  a0 := Tryz.isAgg0
  z0 := Tryz.sizeOf0
  v0 := Tryz.zeroValue0
  t3 := Tryz.underlying3
  a3 := Tryz.isAgg3
  z3 := Tryz.sizeOf3
  v3 := Tryz.zeroValue3
  t4 := Tryz.underlying4
  a4 := Tryz.isAgg4
  z4 := Tryz.sizeOf4
  v4 := Tryz.zeroValue4
  t5 := Tryz.underlying5
  a5 := Tryz.isAgg5
  z5 := Tryz.sizeOf5
  v5 := Tryz.zeroValue5
  t9 := Tryz.underlying9
  a9 := Tryz.isAgg9
  z9 := Tryz.sizeOf9
  v9 := Tryz.zeroValue9
  t22 := Tryz.underlying70
  a22 := Tryz.isAgg70
  z22 := Tryz.sizeOf70
  v22 := Tryz.zeroValue70
  t25 := Tryz.underlying127
  a25 := Tryz.isAgg127
  z25 := Tryz.sizeOf127
  v25 := Tryz.zeroValue127
  t39 := Tryz.underlying111
  a39 := Tryz.isAgg111
  z39 := Tryz.sizeOf111
  v39 := Tryz.zeroValue111
  t45 := Tryz.underlying151
  a45 := Tryz.isAgg151
  z45 := Tryz.sizeOf151
  v45 := Tryz.zeroValue151
  t46 := Tryz.underlying152
  a46 := Tryz.isAgg152
  z46 := Tryz.sizeOf152
  v46 := Tryz.zeroValue152
  t50 := Tryz.underlying156
  a50 := Tryz.isAgg156
  z50 := Tryz.sizeOf156
  v50 := Tryz.zeroValue156
  t53 := Tryz.underlying114
  a53 := Tryz.isAgg114
  z53 := Tryz.sizeOf114
  v53 := Tryz.zeroValue114
  t55 := Tryz.underlying107
  a55 := Tryz.isAgg107
  z55 := Tryz.sizeOf107
  v55 := Tryz.zeroValue107
  t66 := Tryz.underlying165
  a66 := Tryz.isAgg165
  z66 := Tryz.sizeOf165
  v66 := Tryz.zeroValue165
  t70 := Tryz.underlying169
  a70 := Tryz.isAgg169
  z70 := Tryz.sizeOf169
  v70 := Tryz.zeroValue169
  t76 := Tryz.underlying172
  a76 := Tryz.isAgg172
  z76 := Tryz.sizeOf172
  v76 := Tryz.zeroValue172
  t77 := Tryz.underlying173
  a77 := Tryz.isAgg173
  z77 := Tryz.sizeOf173
  v77 := Tryz.zeroValue173 }
end Go.Proofs
/- slices.SortFunc of levels as they lie. No condition. -/
namespace Go.Proofs.YtlaemhigmgmgjaaGreat
set_option linter.unusedVariables false
set_option linter.unusedSimpArgs false
open Go.RowKit
open Go.Sort (grow HoldsK SWO PermIn SortedIn)

def rowE (up : Bool) (a b : Int) : Int := if up then cmpI a b else cmpI b a
abbrev Raw := Int × Int × Nat
def rawEnc (n : Nat) (x : Raw) : List Value := [.int .i64 x.1, .int .i64 x.2.1, .slice (some ⟨x.2.2, 0, none⟩) n n]
theorem rawEnc_one (n : Nat) (x : Raw) : ∀ v ∈ rawEnc n x, v.oneCell' = true := by
  intro v hv
  simp only [rawEnc, List.mem_cons, List.not_mem_nil, or_false] at hv
  rcases hv with rfl | rfl | rfl <;> rfl
/-- A level as it lies: price, quantity, the block of its parts. -/
abbrev Kd.raw (n : Nat) : Kd Raw := Kd.flat 3 (by decide) (fun _ => True) (rawEnc n) (fun _ => rfl) (rawEnc_one n)
def rawCf (up : Bool) (x y : Raw) : Int := rowE up x.1 y.1
theorem rawCf_lt (up : Bool) (x y : Raw) : ltOf (rawCf up) x y = decide (if up then x.1 < y.1 else y.1 < x.1) := by
  unfold ltOf rawCf rowE cmpI
  cases up <;> simp <;> split <;> (try split) <;> simp_all <;> omega
theorem raw_swo (up : Bool) : SWO (ltOf (rawCf up)) where
  irrefl x := by rw [rawCf_lt]; cases up <;> simp
  trans x y z h1 h2 := by rw [rawCf_lt] at *; cases up <;> simp at * <;> omega
  ntrans x y z h1 h2 := by rw [rawCf_lt] at *; cases up <;> simp at * <;> omega

theorem enters_less (args : Array Value) (w : World) : (callFunc 86 args).run Tryz.prog w = .ok (.enter 86 args) w := enters_of Tryz.func86 (by kernel_rfl) rfl args w

set_option maxRecDepth 100000 in
set_option maxHeartbeats 1000000 in
theorem less_calls (up : Bool) (g2 n bb : Nat) (w : World) (hb : w.heap[bb]? = some (.cells #[.func (.func g2) #[] #[]] 102 (0, 0))) (x y : Raw)
    (e2 : ∀ args w, (callFunc g2 args).run Tryz.prog w = .ok (.enter g2 args) w)
    (hr2 : ∀ (a b : Int) (w : World), Calls Tryz.prog g2 #[.int .i64 a, .int .i64 b] w fun e w' => w' = w ∧ e = .returned (.int .i64 (rowE up a b))) :
    Calls Tryz.prog 86 #[.agg (rawEnc n x).toArray, .agg (rawEnc n y).toArray, .pointer (some ⟨bb, 0, none⟩)] w fun e w' => e = .returned (.int .i64 (rawCf up x y)) ∧ ∃ q os', w' = grow (w.drewN q) os' := by
  obtain ⟨p, q, a⟩ := x
  obtain ⟨p', q', a'⟩ := y
  obtain ⟨W, hW, g0, g1, hB, hs⟩ := two_boxes w (.cells #[.int .i64 p, .int .i64 q, .slice (some ⟨a, 0, none⟩) n n] 105) (.cells #[.int .i64 p', .int .i64 q', .slice (some ⟨a', 0, none⟩) n n] 105)
  have y0 : W.cell? ⟨w.heap.size, 0, none⟩ = some (.int .i64 p) := hcell g0 0 rfl
  have y1 : W.cell? ⟨w.heap.size + 1, 0, none⟩ = some (.int .i64 p') := hcell g1 0 rfl
  have y2 : W.cell? ⟨bb, 0, none⟩ = some (.func (.func g2) #[] #[]) := hcell (heap_below hB hb) 0 rfl
  have HR := Lib.hid hr2
  have HWW := Lib.hid hW
  clear g0 g1 hB hs hb hr2
  simp only [rawEnc]
  go_enter Tryz.func86, Tryz.ntmps86
  go_wp2_with fail
  clear hW
  refine (HR.out p p' W).mono ?_
  rintro e w1 ⟨rfl, rfl⟩
  obtain ⟨r, hr⟩ : ∃ r, r = rowE up p p' := ⟨_, rfl⟩
  rw [← hr]
  have HRR := Lib.hid hr
  clear hr
  go_wp2
  go_ret
  refine ⟨by rw [HRR.out]; rfl, 0, #[.cells #[.int .i64 p, .int .i64 q, .slice (some ⟨a, 0, none⟩) n n] 105, .cells #[.int .i64 p', .int .i64 q', .slice (some ⟨a', 0, none⟩) n n] 105], ?_⟩
  · rw [← HWW.out, Go.Sort.alloc_eq_grow, Go.Sort.alloc_eq_grow, Go.Sort.grow_grow]
    rfl
#print axioms less_calls

theorem raw_holds {n e base : Nat} {okf : Nat → Option Obj → Prop} {w : World} {A : Option Addr} {m c : Nat} {l : List Raw} (h : Own (Kd.raw n) e base okf w (.slice A m c) l) (hl : l ≠ []) :
    ∃ g cs, A = some ⟨g, 0, none⟩ ∧ base ≤ g ∧ g < w.heap.size ∧ HoldsK (rawEnc n) 3 w g 0 l.toArray ∧ w.heap[g]? = some (.cells cs e (0, 0)) := by
  have hrow := h.row
  obtain ⟨css, hl', hr, hown, hne, hm⟩ := h
  rcases hown.2 with ⟨_, h0⟩ | ⟨g, cap, cur, hv, hb, hg, hnc, hcm, hcs, htake⟩
  · exact absurd (List.eq_nil_of_length_eq_zero h0) hl
  · simp only [Value.slice.injEq] at hv
    obtain ⟨rfl, rfl, rfl⟩ := hv
    refine ⟨g, cur, rfl, hb, (Array.getElem?_eq_some_iff.1 hg).1, fun j hj => ?_, hg⟩
    obtain ⟨A', c', hv', _, _, hrr⟩ := hrow
    simp only [Value.slice.injEq] at hv'
    obtain ⟨rfl, _, rfl⟩ := hv'
    obtain ⟨b', off', hA, _, hcell⟩ := hrr (List.length_pos_iff.2 hl)
    simp only [Option.some.injEq, Addr.mk.injEq] at hA
    obtain ⟨rfl, rfl, _⟩ := hA
    rw [Go.Sort.size_flatK] at hj
    simp only [List.size_toArray] at hj
    have hq : j / 3 < l.length := by omega
    obtain ⟨cs, ⟨rfl, _⟩, h3⟩ := hcell (j / 3) hq
    have h4 := h3 (j % 3) (by show j % 3 < 3; omega)
    rw [Go.Sort.get_flatK _ _ _ _ (by simpa using hj)]
    refine ⟨?_, by simp [World.frozen?, hg]⟩
    have e1 : 0 + j / 3 * (Kd.raw n).sz + j % 3 = 0 + j := by show 0 + j / 3 * 3 + j % 3 = 0 + j; omega
    rw [e1] at h4
    rw [h4]
    simp [hq]
    rw [List.getElem?_eq_getElem (by show j % 3 < 3; omega)]
    rfl
theorem sort_heap {n k m blk : Nat} {w : World} {d : Array Raw} {os : Array Obj} (hk : k < w.heap.size) (hne : k ≠ blk) : (sortWorldK (rawEnc n) 3 w blk 0 m d os).heap[k]? = w.heap[k]? := by
  unfold sortWorldK
  rw [Go.Sort.heap_grow_old _ _ (by rw [Go.Sort.size_putRowK]; exact hk)]
  simp only [Go.Sort.putRowK, Go.Sort.putRow, Go.Sort.mapBlock, Array.getElem?_modify, Go.Sort.heap_ahead]
  rw [if_neg (fun e => hne e.symm)]
theorem PermIn.whole {d d' : Array Raw} (h : PermIn 0 d.size d d') : d'.size = d.size ∧ d'.toList.Perm d.toList := by
  obtain ⟨h1, _, h3⟩ := h
  refine ⟨h1, ?_⟩
  have e1 : d.extract 0 d.size = d := by simp
  have e2 : d'.extract 0 d.size = d' := by rw [← h1]; simp
  rwa [e1, e2] at h3

set_option maxRecDepth 100000 in
set_option maxHeartbeats 1000000 in
theorem sort_calls (up : Bool) (g2 n bb base : Nat) (okf : Nat → Option Obj → Prop) (A : Option Addr) (m c : Nat) (l : List Raw) (w : World) (h : Own (Kd.raw n) 105 base okf w (.slice A m c) l) (hl48 : l.length ≤ 48) (hbase : base ≤ w.heap.size)
    (hb : w.heap[bb]? = some (.cells #[.func (.func g2) #[] #[]] 102 (0, 0))) (hbb : bb < base)
    (e2 : ∀ args w, (callFunc g2 args).run Tryz.prog w = .ok (.enter g2 args) w)
    (hr2 : ∀ (a b : Int) (w : World), Calls Tryz.prog g2 #[.int .i64 a, .int .i64 b] w fun e w' => w' = w ∧ e = .returned (.int .i64 (rowE up a b))) :
    Calls Tryz.prog 85 #[.slice A m c, .func (.func 86) #[] #[.pointer (some ⟨bb, 0, none⟩)]] w fun e w' => e = .returned (.tuple #[]) ∧ w.heap.size ≤ w'.heap.size ∧
      w'.os = w.os ∧ w'.tape = w.tape ∧ w'.output = w.output ∧ (∀ k, k < w.heap.size → A ≠ some ⟨k, 0, none⟩ → w'.heap[k]? = w.heap[k]?) ∧ ∃ l' : List Raw, l'.Perm l ∧ l'.Pairwise (fun x y => ltOf (rawCf up) y x = false) ∧ Row (Kd.raw n) (New base) w' (.slice A m c) l' := by
  by_cases hl : l = []
  · subst hl
    obtain ⟨A', c', hv⟩ := h.form
    simp only [Value.slice.injEq] at hv
    obtain ⟨rfl, rfl, rfl⟩ := hv
    have hrow := h.row
    have hS := AnyF.slices_SortFunc_none (P := Tryz.prog) (ρ := Tryz.sortL_ren) Tryz.sortL A c (.func (.func 86) #[] #[.pointer (some ⟨bb, 0, none⟩)]) w
    refine Calls.mono hS ?_
    rintro e w' ⟨rfl, rfl⟩
    refine ⟨rfl, Nat.le_refl _, rfl, rfl, rfl, fun _ _ _ => rfl, [], List.Perm.refl _, List.Pairwise.nil, ?_⟩
    obtain ⟨A', c', hv', hc', hm', _⟩ := hrow
    exact ⟨A', c', hv', hc', hm', fun h => absurd h (by simp)⟩
  · obtain ⟨g, cs, rfl, hg1, hg2, hH, hgc⟩ := raw_holds h hl
    obtain ⟨A', c', hv⟩ := h.form
    simp only [Value.slice.injEq] at hv
    obtain ⟨rfl, rfl, rfl⟩ := hv
    have hrow := h.row
    have hne : bb ≠ g := by omega
    have hcmp : CmpLays Tryz.prog 86 #[.pointer (some ⟨bb, 0, none⟩)] (rawEnc n) 3 (rawCf up) g 0 l.toArray.size w := fun m os dk _ x y =>
      less_calls up g2 n bb _ ((sort_heap (Nat.lt_of_lt_of_le hbb hbase) hne).trans hb) x y e2 hr2
    have hS := AnyQ.slices_SortFunc (P := Tryz.prog) (ρ := Tryz.sortL_ren) Tryz.sortL 3 (fun _ => by kernel_rfl) (fun _ => by kernel_rfl) (rawEnc n) (fun _ => rfl) (rawEnc_one n) (rawCf up) (raw_swo up) 86 #[.pointer (some ⟨bb, 0, none⟩)] g 0 c l.toArray w enters_less hcmp hH hg2 (by simp; omega)
    rw [List.size_toArray] at hS
    refine Calls.mono hS ?_
    rintro e w' ⟨rfl, d', q, os, hp, hs, rfl⟩
    rw [← List.size_toArray] at hp hs
    obtain ⟨hsz, hperm⟩ := PermIn.whole hp
    have hK := holdsK_sortWorldK_c (rawEnc n) 3 w g 0 l.toArray d' q os hH hg2 hsz
    refine ⟨rfl, size_sortWorldK_c _ _ _ _ _ _ _ _, rfl, rfl, rfl, fun k hk hA => sort_heap hk (fun e => hA (by rw [e])), d'.toList, hperm, ?_, ?_⟩
    · rw [List.pairwise_iff_getElem]
      intro i j hi hj hij
      have h1 := hs i j (Nat.zero_le _) hij (by rw [← hsz]; simpa using hj)
      have hi' : i < d'.size := by simpa using hi
      have hj' : j < d'.size := by simpa using hj
      simpa [hi', hj'] using h1
    · have hlen : d'.toList.length = l.length := by rw [Array.length_toList, hsz, List.size_toArray]
      obtain ⟨A', c', hv', hc', hm', _⟩ := hrow
      simp only [Value.slice.injEq] at hv'
      obtain ⟨rfl, _, rfl⟩ := hv'
      refine ⟨_, c, by rw [hlen], by rw [hlen]; exact hc', by rw [hlen]; exact hm', fun _ => ⟨g, 0, rfl, ⟨hg1, ?_⟩, fun j hj => ⟨_, ⟨rfl, trivial⟩, fun i hi => ?_⟩⟩⟩
      · intro cs' e' fr' hfr
        have hfz := (hK.cell (i := 0) (c := 0) (by rw [hsz]; simpa using List.length_pos_iff.2 hl) (by decide)).2
        have hgz : (sortWorldK (rawEnc n) 3 w g 0 q d' os).heap[g]? = some (.cells (Go.Sort.putCells id 0 (Go.Sort.flatK (rawEnc n) 3 d') cs) 105 (0, 0)) := by
          unfold sortWorldK
          rw [Go.Sort.heap_grow_old _ _ (by rw [Go.Sort.size_putRowK]; exact hg2)]
          simp only [Go.Sort.putRowK, Go.Sort.putRow, Go.Sort.mapBlock, Array.getElem?_modify, Go.Sort.heap_ahead, hgc]
          simp [Go.Sort.onCells]
        rw [hgz] at hfr
        cases hfr
        rfl
      · have hj' : j < d'.size := by simpa using hj
        have h1 := (hK.cell (i := j) (c := i) hj' hi).1
        have hi' : i < 3 := hi
        rw [show (0 + j * (Kd.raw n).sz + i) = 0 + j * 3 + i from rfl, h1]
        simp [hj']
        rw [List.getElem?_eq_getElem (show i < (rawEnc n d'[j]).length from hi')]
        rfl
#print axioms sort_calls
end Go.Proofs.YtlaemhigmgmgjaaGreat
/- stack: merge. -/
namespace Go.Proofs.YtlaemhigmgmgjaaGreat
set_option linter.unusedVariables false
set_option linter.unusedSimpArgs false
open Go.RowKit
open Go.Maps (Keyed)

theorem curve_cell {ok : Nat → Option Obj → Prop} {w : World} {A : Option Addr} {n c : Nat} {L : List Crv} (h : Row Kd.curve ok w (.slice A n c) L) {k : Nat} (hk : k < L.length) :
    ∃ b off A' c', A = some ⟨b, off, none⟩ ∧ w.cell? ⟨b, off + k, none⟩ = some (.slice A' L[k].length c') ∧ Row Kd.step ok w (.slice A' L[k].length c') L[k] := by
  obtain ⟨A', c', hv, hc, hm, hr⟩ := h
  simp only [Value.slice.injEq] at hv
  obtain ⟨rfl, rfl, rfl⟩ := hv
  obtain ⟨b, off, rfl, _, hj⟩ := hr (by omega)
  obtain ⟨cs, ⟨v, rfl, hv⟩, h3⟩ := hj k hk
  obtain ⟨Av, cv, rfl, hv2⟩ := hv.form
  have := h3 0 (by simp)
  simp only [List.getElem_cons_zero, Nat.add_zero] at this
  exact ⟨b, off, Av, cv, rfl, by simpa [Kd.slice] using this, hv⟩
theorem make_parts (n : Nat) (hn : n ≤ 16) (w : World) : (Instr.makeSlice 28 (.int .i64 (n : Int)) (.int .i64 (n : Int))).run Tryz.prog w = .ok (.slice (some ⟨w.heap.size, 0, none⟩) n n) (w.alloc (.cells (Array.replicate n (.int .i64 0)) 2)) :=
  make_row 28 2 (.int .i64 0) 8 Tryz.underlying28 (by kernel_rfl) rfl n n rfl (by omega) (by omega) w
theorem none_found {L : List Crv} {p : Int} : p ∉ pricesOf (part L 0 0) := by
  rw [part_zero]
  intro h
  obtain ⟨c, hc, s, hs, _⟩ := mem_pricesOf.1 h
  rw [(List.mem_replicate.1 hc).2] at hs
  cases hs

def rawOf (L : List Crv) (pa : Int → Nat) (p : Int) : Int × Int × Nat := (p, (partsAt L p).sum, pa p)
theorem info_level : (Tryz.prog.info? 105).map (fun i => (i.zero, i.size, i.bytes)) = some (some (.agg #[.int .i64 0, .int .i64 0, .slice none 0 0]), 3, 40) := by kernel_rfl
def Cells (w : World) (n : Nat) (keys : List Int) (L : List Crv) (bl pa : Int → Nat) : Prop := ∀ p ∈ keys, w.heap[bl p]? = some (.cells #[.int .i64 p, .int .i64 (partsAt L p).sum, .slice (some ⟨pa p, 0, none⟩) n n] 105 (0, 0)) ∧
    w.heap[pa p]? = some (.cells ((partsAt L p).map (Value.int .i64)).toArray 2 (0, 0))
theorem Cells.grown {w w' : World} {n : Nat} {keys : List Int} {L : List Crv} {bl pa : Int → Nat} (h : Cells w n keys L bl pa) {row : Option Nat} (hg : w.grownBy w' row) (hne : ∀ p ∈ keys, some (bl p) ≠ row ∧ some (pa p) ≠ row) : Cells w' n keys L bl pa := fun p hp => by
  obtain ⟨h1, h2⟩ := h p hp
  exact ⟨(hg.block _ (Array.getElem?_eq_some_iff.1 h1).1 (hne p hp).1).trans h1, (hg.block _ (Array.getElem?_eq_some_iff.1 h2).1 (hne p hp).2).trans h2⟩
theorem key_inv (key : Value) (kl : Lit) (h : keyOf Tryz.prog 2 key = some kl) : ∃ x, key = Value.int .i64 x := by
  obtain ⟨x, rfl, _⟩ := Maps.keyOf_int_inv Tryz.underlying2 h
  exact ⟨x, rfl⟩
theorem key_inv2 (x : Int) (kl : Lit) (h : keyOf Tryz.prog 2 (.int .i64 x) = some kl) : kl = .int .i64 x ∧ I64 x := by
  obtain ⟨y, hy, rfl, hw⟩ := Maps.keyOf_int_inv Tryz.underlying2 h
  cases hy
  refine ⟨rfl, ?_⟩
  simp [Lit.wf, IntKind.min, IntKind.max, IntKind.signed, IntKind.bits] at hw
  unfold I64
  omega
theorem val_inv (v : Value) (y : DW × List MemPlace) (h : ptrElem v = some y) : ∃ c, v = Value.pointer c := by
  unfold ptrElem at h
  split at h
  · exact ⟨_, rfl⟩
  · exact ⟨_, rfl⟩
  · cases h

theorem raw_level {w : World} {v : Value} {L : List Crv} {pa : Int → Nat} {ps : List Int} {m n0 : Nat} (h : Row (Kd.raw L.length) (New m) w v (ps.map (rawOf L pa))) (hm : n0 ≤ m) (hL : L.length ≤ 16) (hg : ∀ c ∈ L, Good c)
    (hc : ∀ p ∈ ps, I64 p ∧ n0 ≤ pa p ∧ w.heap[pa p]? = some (.cells ((partsAt L p).map (Value.int .i64)).toArray 2 (0, 0))) : Row Kd.level (New n0) w v (ps.map (lvl L)) := by
  obtain ⟨A, c, hv, hcc, hmm, hr⟩ := h
  rw [List.length_map] at hv hcc hmm
  refine ⟨A, c, by rw [List.length_map]; exact hv, by rw [List.length_map]; exact hcc, by rw [List.length_map]; exact hmm, fun hp => ?_⟩
  rw [List.length_map] at hp
  obtain ⟨b, off, hA, hb, hj⟩ := hr (by rw [List.length_map]; exact hp)
  refine ⟨b, off, hA, New.mono hm _ _ hb, fun j hjl => ?_⟩
  rw [List.length_map] at hjl
  obtain ⟨cs, ⟨hcs, _⟩, h2⟩ := hj j (by rw [List.length_map]; exact hjl)
  rw [List.getElem_map] at hcs
  rw [List.getElem_map]
  have hmem : ps[j] ∈ ps := List.getElem_mem _
  obtain ⟨i1, i2, i3⟩ := hc _ hmem
  have hs := parts_sum_le hg ps[j]
  refine ⟨cs, ?_, h2⟩
  rw [hcs]
  refine Kd.level_mk i1 ⟨by omega, by omega⟩ ?_
  have hle := parts_le hg ps[j]
  have := row_of_block (K := Kd.i64) (enc := Value.int .i64) (n := n0) (c := L.length) ((partsAt L ps[j]).map (Value.int .i64)).toArray (partsAt L ps[j]) rfl (fun _ x hx => ⟨rfl, by have := hle x hx; unfold I64; omega⟩) i3 (fun k hk => by simp [hk]) i2 (by rw [partsAt_len]; exact Nat.le_refl _) (by rw [partsAt_len]; omega)
  rw [partsAt_len] at this
  exact this
theorem sorted_raw {up : Bool} {L : List Crv} {pa : Int → Nat} {vs : List Int} {l' : List Raw} (hn : vs.Nodup) (hp : l'.Perm (vs.map (rawOf L pa))) (hs : l'.Pairwise (fun x y => ltOf (rawCf up) y x = false)) (hall : ∀ p, p ∈ vs ↔ p ∈ pricesOf L) : l' = (sortP up (pricesOf L)).map (rawOf L pa) := by
  have h1 : ∀ x ∈ l', x = rawOf L pa x.1 := fun x hx => by
    obtain ⟨p, _, rfl⟩ := List.mem_map.1 (hp.mem_iff.1 hx)
    rfl
  have h2 : (l'.map (·.1)).map (rawOf L pa) = l' := by
    rw [List.map_map]
    conv => rhs; rw [← List.map_id l']
    exact List.map_congr_left fun x hx => (h1 x hx).symm
  have h3 : (l'.map (·.1)).Perm vs := by
    have := hp.map (·.1)
    rw [List.map_map] at this
    have e : ((fun x : Raw => x.1) ∘ rawOf L pa) = id := rfl
    rwa [e, List.map_id] at this
  have h4 : (l'.map (·.1)).Nodup := h3.nodup_iff.2 hn
  have h5 : (l'.map (·.1)).Pairwise (fun a b => afterOf up a b = true) := by
    rw [List.pairwise_map]
    have h6 := List.pairwise_map.1 h4
    refine (hs.and h6).imp (fun {x y} hxy => ?_)
    obtain ⟨g1, g2⟩ := hxy
    rw [rawCf_lt, decide_eq_false_iff_not] at g1
    rw [afterOf_iff]
    cases up <;> simp at * <;> omega
  rw [← sorted_one h5 (sorted_sortP up (pricesOf L)) (fun x => by rw [h3.mem_iff, hall, mem_sortP]), h2]

set_option maxRecDepth 100000 in
set_option maxHeartbeats 4000000 in
theorem merge_calls (up : Bool) (g1 g2 : Nat) (ok : Nat → Option Obj → Prop) (A : Option Addr) (n c : Nat) (L : List Crv) (w : World) (h : Row Kd.curve ok w (.slice A n c) L)
    (e1 : ∀ args w, (callFunc g1 args).run Tryz.prog w = .ok (.enter g1 args) w)
    (hw1 : ∀ (A : Option Addr) (n c : Nat) (l : Crv) (w : World), Row Kd.step ok w (.slice A n c) l → Calls Tryz.prog g1 #[.slice A n c] w fun e w' => Below w.heap.size w w' ∧ e = .returned (.int .i64 (curveE (afterOf up) l)))
    (e2 : ∀ args w, (callFunc g2 args).run Tryz.prog w = .ok (.enter g2 args) w)
    (hr2 : ∀ (a b : Int) (w : World), Calls Tryz.prog g2 #[.int .i64 a, .int .i64 b] w fun e w' => w' = w ∧ e = .returned (.int .i64 (rowE up a b))) :
    Calls Tryz.prog 63 #[.slice A n c, .func (.func g1) #[] #[], .func (.func g2) #[] #[]] w fun e w' => Below w.heap.size w w' ∧ ∃ v i er s, e = .returned (.tuple #[v, .int .i64 i, .int .i64 er]) ∧ mergeR up L = (s, i, er) ∧ Row Kd.level (New w.heap.size) w' v s := by
  obtain rfl := h.len
  have hm := h.small
  obtain ⟨W, hW, g0, gm, hB, hs⟩ := two_boxes w (.cells #[.func (.func g2) #[] #[]] 102) (.map #[] 0)
  have HR := Lib.hid h
  have HB := Lib.hid hB
  have HS := Lib.hid hs
  have G0 := Lib.hid g0
  have HM := Lib.hid gm
  have hmm := @run_makeMap Tryz.prog
  have hm0 : W.ownsMap Tryz.prog 2 ptrElem (w.heap.size + 1) 0 (.map []) := by
    rw [← hW]
    simpa using World.ownsMap_made (w.alloc (.cells #[.func (.func g2) #[] #[]] 102)) Tryz.prog 2 ptrElem
  have HM0 := Lib.hid hm0
  have HW1 := Lib.hid hw1
  have HR2 := Lib.hid hr2
  have HE2 := Lib.hid e2
  clear h hB hs g0 gm hm0 hw1 hr2 e2
  go_enter Tryz.func63, Tryz.ntmps63
  by_cases h16 : 16 < L.length
  · have e : mergeR up L = ([], 0, 5) := by unfold mergeR; rw [if_pos h16]
    have HE := Lib.hid e
    have hgt : (16 : Int) < (L.length : Int) := by omega
    clear e
    go_wp2
    refine bodyPost_ret (v := .tuple #[.slice none 0 0, .int .i64 0, .int .i64 5]) (by simp [results, Tryz.results63, go_sem]) rfl ?_
    exact ⟨below_alloc _ _, _, _, _, _, rfl, HE.out, Row.nil 0 none (fun _ => rfl)⟩
  have hgt : (L.length : Int) ≤ 16 := by omega
  have hL16 : L.length ≤ 16 := by omega
  clear h16
  go_wp2_with fail
  clear hmm
  clear hW
  go_loopw [26] (fun i wr => ∃ (k : Nat) (keys : List Int) (bl pa : Int → Nat), k ≤ L.length ∧ i = .int .i64 k ∧ keys.length ≤ 3 * k ∧ Hid (Lvls wr (w.heap.size + 1) (w.heap.size + 2) L.length keys (part L k 0) bl pa) ∧ Hid (∀ p, p ∈ keys ↔ p ∈ pricesOf (part L k 0)) ∧
      Hid (∀ j (hj : j < L.length), j < k → curveE (afterOf up) L[j] = 0) ∧ Hid (wr.heap[w.heap.size]? = some (.cells #[.func (.func g2) #[] #[]] 102 (0, 0))) ∧ Hid (Below w.heap.size w wr) ∧ Hid (w.heap.size + 2 ≤ wr.heap.size))
    (fun i _ => L.length - (intOf i).toNat)
  case atStart =>
    refine ⟨0, [], fun _ => 0, fun _ => 0, Nat.zero_le _, rfl, Nat.zero_le _, ⟨⟨_, HM0.out, fun p _ => ⟨by simp [Maps.has], fun h => absurd h (by simp)⟩⟩, fun p h => absurd h (by simp), fun p h => absurd h (by simp), fun p h => absurd h (by simp), by omega⟩, fun p => ⟨fun h => absurd h (by simp), fun h => absurd h none_found⟩, fun j hj h => absurd h (by omega), G0.out, HB.out, by have := HS.out; unfold Hid; omega⟩
  case round =>
    obtain ⟨k, keys, bl, pa, hk, rfl, hkl, HL, HK, HC, HBX, HBW, HSZ⟩ := hrel
    by_cases hlt : k < L.length
    · obtain ⟨b, off, A', c', rfl, hcl0, hrow⟩ := curve_cell HR.out hlt
      obtain ⟨l, hl⟩ : ∃ l, l = L[k] := ⟨_, rfl⟩
      rw [← hl] at hcl0 hrow
      have hcl := cell_below HBW.out hcl0
      clear hcl0
      have HROW := Lib.hid hrow
      have hlm := hrow.small
      have HLK := Lib.hid hl
      clear hl hrow
      go_wp2_with fail
      refine (HW1.out _ _ _ l _ (HROW.out.below HBW.out)).mono ?_
      rintro e w1 ⟨hb1, rfl⟩
      have HB1 := Lib.hid hb1
      obtain ⟨d, hd⟩ : ∃ d, d = curveE (afterOf up) l := ⟨_, rfl⟩
      rw [← hd]
      have HD := Lib.hid hd
      clear hb1 hd
      by_cases hd0 : d = 0
      · subst hd0
        have hl3 := (curveE_in HD.out.symm).2.1
        have HG : Hid (∀ j (hj : j < L.length), j ≤ k → Good L[j]) := fun j hj hjk => by
          by_cases e : j = k
          · subst e; have h1 := HLK.out; subst h1; exact good_curve HD.out.symm
          · exact good_curve (HC.out j hj (by omega))
        go_wp2_with fail
        go_loopw [40] (fun j wx => ∃ (j' : Nat) (keys : List Int) (bl pa : Int → Nat), j' ≤ l.length ∧ j = .int .i64 j' ∧ keys.length ≤ 3 * k + j' ∧ Hid (Lvls wx (w.heap.size + 1) (w.heap.size + 2) L.length keys (part L k j') bl pa) ∧ Hid (∀ p, p ∈ keys ↔ p ∈ pricesOf (part L k j')) ∧
            Hid (wx.heap[w.heap.size]? = some (.cells #[.func (.func g2) #[] #[]] 102 (0, 0))) ∧ Hid (Below w.heap.size w wx) ∧ Hid (w.heap.size + 2 ≤ wx.heap.size))
          (fun j _ => l.length - (intOf j).toNat)
        case atStart =>
          have h1 := HB1.out.size
          exact ⟨0, keys, bl, pa, Nat.zero_le _, rfl, by omega, HL.out.below HB1.out, HK.out, heap_below HB1.out HBX.out, below_next HBW.out HB1.out, Nat.le_trans HSZ.out h1⟩
        case round =>
          obtain ⟨j, keys, bl, pa, hj, rfl, hkj, HL, HK, HBX, HBW, HSZ⟩ := hrel
          by_cases hjl : j < l.length
          · obtain ⟨b2, off2, rfl, hq, hp, iq, ip⟩ := step_cell (HROW.out.below HBW.out) hjl
            obtain ⟨s, hs⟩ : ∃ s, s = l[j] := ⟨_, rfl⟩
            rw [← hs] at hq hp iq ip
            obtain ⟨q, p⟩ := s
            simp only at hq hp iq ip
            have hsin : StepIn (q, p) := by rw [hs]; exact (curveE_in HD.out.symm).2.2 _ (List.getElem_mem _)
            have HSJ := Lib.hid hs
            have HSIN := Lib.hid hsin
            have HIP := Lib.hid ip
            obtain ⟨Wx, hWx, gx, hBx, hsx⟩ := one_box wr (.cells #[.int .i64 q, .int .i64 p] 99)
            have HLX := Lib.hid (HL.out.below hBx)
            have HBXX := Lib.hid (heap_below hBx HBX.out)
            have HBWX := Lib.hid (below_next HBW.out hBx)
            have HSX := Lib.hid hsx
            have GX := Lib.hid gx
            have x0 : Wx.cell? ⟨wr.heap.size, 0, none⟩ = some (.int .i64 q) := hcell gx 0 rfl
            have x1 : Wx.cell? ⟨wr.heap.size, 1, none⟩ = some (.int .i64 p) := hcell gx 1 rfl
            clear hs hsin ip iq hBx gx hsx
            obtain ⟨v, f, hlook, hvf⟩ := HLX.out.find HIP.out
            have HVF := Lib.hid hvf
            clear hvf
            go_upto_if 52 with fail
            clear hWx
            go_cut [15] (fun s15 wx => ∃ (keys' : List Int) (bl' pa' : Int → Nat), s15 = .pointer (some ⟨bl' p, 0, none⟩) ∧ p ∈ keys' ∧ keys'.length ≤ 3 * k + (j + 1) ∧ Hid (Lvls wx (w.heap.size + 1) (w.heap.size + 2) L.length keys' (part L k j) bl' pa') ∧ Hid (∀ x, x ∈ keys' ↔ x ∈ pricesOf (part L k j) ∨ x = p) ∧
              Hid (wx.heap[w.heap.size]? = some (.cells #[.func (.func g2) #[] #[]] 102 (0, 0))) ∧ Hid (Below w.heap.size w wx) ∧ Hid (w.heap.size + 2 ≤ wx.heap.size) ∧ Hid (wx.heap[wr.heap.size]? = some (.cells #[.int .i64 q, .int .i64 p] 99 (0, 0))))
            case first =>
              cases f with
              | true =>
                obtain ⟨rfl, hin⟩ : v = .pointer (some ⟨bl p, 0, none⟩) ∧ p ∈ keys := by
                  rcases HVF.out with ⟨h, _⟩ | ⟨_, h⟩
                  · cases h
                  · exact h
                have HIN := Lib.hid hin
                clear hin
                go_wp2
                go_meet
                case rel => exact ⟨keys, bl, pa, rfl, HIN.out, by omega, HLX.out, fun x => by rw [HK.out]; exact ⟨.inl, fun h => h.elim id (fun e => by rw [e, ← HK.out]; exact HIN.out)⟩, HBXX.out, HBWX.out, by have := HSX.out; have := HSZ.out; unfold Hid; omega, GX.out⟩
              | false =>
                obtain ⟨rfl, hin⟩ : v = .pointer none ∧ p ∉ keys := by
                  rcases HVF.out with ⟨_, h⟩ | ⟨h, _⟩
                  · exact h
                  · cases h
                have HIN := Lib.hid hin
                have hmk := make_parts L.length hL16
                have hlx : wr.heap.size < Wx.heap.size := by have := HSX.out; omega
                have x1' : Wx.drew.cell? ⟨wr.heap.size, 1, none⟩ = some (.int .i64 p) := x1
                obtain ⟨D, hD1, hD2⟩ := HLX.out.map
                have HD1 := Lib.hid hD1
                have HD2 := Lib.hid hD2
                clear hin hD1 hD2
                go_wp2_with fail
                go_region
                obtain ⟨Wz, hWz, gz0, gz1, hBz, hsz⟩ := two_boxes Wx (.cells (Array.replicate L.length (.int .i64 0)) 2) (.cells #[.int .i64 p, .int .i64 0, .slice (some ⟨Wx.heap.size, 0, none⟩) L.length L.length] 105)
                rw [hWz]
                have HDZ := Lib.hid (((HD1.out.alloc (.cells (Array.replicate L.length (.int .i64 0)) 2)).alloc (.cells #[.int .i64 p, .int .i64 0, .slice (some ⟨Wx.heap.size, 0, none⟩) L.length L.length] 105)).drew)
                rw [hWz] at HDZ
                have x1z : Wz.drew.cell? ⟨wr.heap.size, 1, none⟩ = some (.int .i64 p) := cell_below hBz.drew x1
                have GZ0 := Lib.hid gz0
                have GZ1 := Lib.hid gz1
                have HBZ := Lib.hid hBz
                have HSZZ := Lib.hid hsz
                have hm1 : keys.length < maxLen := by unfold maxLen; omega
                have HKP := Lib.hid (key_i64 HIP.out)
                clear hWz gz0 gz1 hBz hsz hmk x1' x1 hlook
                go_wp2_with (first | (at_mapUpdate; refine wpList_mapUpdate_own _ rfl _ _ _ 123 rfl 2 124 i64_keyed Tryz.underlying123 ptrElem (w.heap.size + 1) keys.length D rfl HDZ.out hm1 _ _ (.int .i64 p) rfl rfl HKP.out (.lit (.int .i64 ((Wx.heap.size + 1 : Nat) : Int))) [] rfl ?_; intro w3 hown3 hgrow3) | go_in)
                go_meet
                case rel =>
                  have h1 := HSZZ.out
                  have h2 := HSX.out
                  have h3 := HSZ.out
                  have hlt3 : ∀ i, i < Wx.heap.size → i ≠ w.heap.size + 1 → w3.heap[i]? = Wx.heap[i]? := fun i hi hne => (hgrow3.block i (by show i < Wz.heap.size; omega) (by simp; exact hne)).trans (HBZ.out.block i hi)
                  have hnp : p ∉ pricesOf (part L k j) := fun h => HIN.out ((HK.out p).2 h)
                  refine ⟨p :: keys, fun x => if x = p then Wx.heap.size + 1 else bl x, fun x => if x = p then Wx.heap.size else pa x, by simp, by simp, by simp; omega,
                    HLX.out.add HIP.out HIN.out (by rw [qAt_zero_of_not hnp, part_len]) (by omega) (Nat.le_refl _) (by omega) (by omega) HD1.out HD2.out hown3 hlt3 ((hgrow3.block _ (by show _ < Wz.heap.size; omega) (by simp; omega)).trans GZ1.out) ((hgrow3.block _ (by show _ < Wz.heap.size; omega) (by simp; omega)).trans (by rw [List.toArray_replicate]; exact GZ0.out)),
                    fun x => by rw [List.mem_cons, HK.out]; exact ⟨Or.symm, Or.symm⟩, (hlt3 _ (by omega) (by omega)).trans HBXX.out, ?_, ?_, (hlt3 _ (by omega) (by omega)).trans GX.out⟩
                  · exact (below_next HBWX.out HBZ.out).drew.grown hgrow3 (by have := (below_next HBWX.out HBZ.out).size; exact this) (fun i hi => by injection hi with hi; omega)
                  · have := hgrow3.size
                    have h4 : Wz.drew.heap.size = Wz.heap.size := rfl
                    unfold Hid; omega
            case rest =>
              obtain ⟨keys', bl', pa', rfl, hin, hkl', HL', HK', HBX', HBW', HSZ', GX'⟩ := hcut
              obtain ⟨hb, ha⟩ := HL'.out.cells p hin
              have hap := (HL'.out.apart p hin p hin).1
              have hfr := HL'.out.from_ p hin
              have hsum := parts_sum_le (good_part (i := k) (k := j) HG.out) p
              rw [part_len] at hsum
              obtain ⟨t, ht⟩ : ∃ t, t = (partsAt (part L k j) p).sum := ⟨_, rfl⟩
              rw [← ht] at hb hsum
              have HFIN : Hid (Lvls ((wc.setCell ⟨bl' p, 1, none⟩ (.int .i64 (t + q))).setCell ⟨pa' p, k, none⟩ (.int .i64 q)) (w.heap.size + 1) (w.heap.size + 2) L.length keys' (part L k (j + 1)) bl' pa') := by
                have h1 := HLK.out
                subst h1
                have hps := part_step L k j hlt hjl
                rw [← HSJ.out] at hps
                have h2 := HL'.out.step (i := k) (by rw [part_len]; exact hlt) (s := (q, p)) hin (fun x hx e => by
                  rw [part_at L k j hlt] at hx
                  obtain ⟨i, hi, rfl⟩ := List.getElem_of_mem hx
                  rw [List.length_take] at hi
                  rw [List.getElem_take] at e
                  have h3 := List.pairwise_iff_getElem.1 (HG.out k hlt (Nat.le_refl _)).1 i j (by omega) hjl (by omega)
                  rw [← HSJ.out] at h3
                  exact h3 e)
                rw [← hps] at h2
                rw [ht]
                exact h2
              have hkk : ∀ x, x ∈ keys' ↔ x ∈ pricesOf (part L k (j + 1)) := by
                have h1 := HLK.out
                subst h1
                have hps := part_step L k j hlt hjl
                rw [← HSJ.out] at hps
                intro x
                rw [hps, mem_prices_step (s := (q, p)), HK'.out]
              have HKK := Lib.hid hkk
              obtain ⟨B1, hB1⟩ : ∃ x, x = bl' p := ⟨_, rfl⟩
              obtain ⟨P1, hP1⟩ : ∃ x, x = pa' p := ⟨_, rfl⟩
              rw [← hB1, ← hP1] at hap HFIN
              rw [← hB1] at hb hfr
              rw [← hP1] at ha hfr
              rw [← hP1] at hb
              rw [← hB1]
              have hne1 : wr.heap.size ≠ B1 := by
                intro e
                have h1 := GX'.out
                rw [e, hb] at h1
                simp at h1
              have hne2 : wr.heap.size ≠ P1 := by
                intro e
                have h1 := GX'.out
                rw [e, ha] at h1
                simp at h1
              have hsin := HSIN.out
              unfold StepIn at hsin
              simp only at hsin
              have c1 : wc.drew.cell? ⟨B1, 1, none⟩ = some (.int .i64 t) := hcell (heap_drew hb) 1 rfl
              have f1 : wc.drew.frozen? ⟨B1, 1, none⟩ = false := hfree (heap_drew hb) 1
              have cq : wc.drew.cell? ⟨wr.heap.size, 0, none⟩ = some (.int .i64 q) := hcell (heap_drew GX'.out) 0 rfl
              have hwr : IntKind.i64.wrap (t + q) = t + q := IntWalk.i64_in _ ⟨by omega, by omega⟩
              have hb2 := set_same (i := 1) (v := .int .i64 (t + q)) hb
              have ha2 := set_far (a := ⟨B1, 1, none⟩) (v := .int .i64 (t + q)) ha (fun e => hap e.symm)
              have hq2 := set_far (a := ⟨B1, 1, none⟩) (v := .int .i64 (t + q)) GX'.out hne1
              have d2 : ((wc.setCell ⟨B1, 1, none⟩ (.int .i64 (t + q))).drew.drew).cell? ⟨B1, 2, none⟩ = some (.slice (some ⟨P1, 0, none⟩) L.length L.length) := hcell (heap_drew (heap_drew hb2)) 2 rfl
              have dq : ((wc.setCell ⟨B1, 1, none⟩ (.int .i64 (t + q))).drew.drew).cell? ⟨wr.heap.size, 0, none⟩ = some (.int .i64 q) := hcell (heap_drew (heap_drew hq2)) 0 rfl
              have dP : ((wc.setCell ⟨B1, 1, none⟩ (.int .i64 (t + q))).drew.drew).cell? ⟨P1, k, none⟩ = some (.int .i64 ((partsAt (part L k j) p)[k]'(by rw [partsAt_len, part_len]; exact hlt))) := hcell (heap_drew (heap_drew ha2)) k (by simp [partsAt_len, part_len, hlt])
              have dF : ((wc.setCell ⟨B1, 1, none⟩ (.int .i64 (t + q))).drew.drew).frozen? ⟨P1, k, none⟩ = false := hfree (heap_drew (heap_drew ha2)) k
              obtain ⟨z, hz⟩ : ∃ z, z = (partsAt (part L k j) p)[k]'(by rw [partsAt_len, part_len]; exact hlt) := ⟨_, rfl⟩
              rw [← hz] at dP
              have hk1 : (k : Int) < (L.length : Int) := by omega
              have HF := Lib.hid hfr
              have hjj : j + 1 ≤ l.length := hjl
              clear hb ha hap ht hB1 hP1 hkk hb2 ha2 hq2 hz hin hfr hp hq hcl x0 x1 hlook HVF
              go_wp2_with fail
              go_region
              go_wp2_with fail
              go_region
              go_wp2
              go_roundw
              case rel =>
                have h1 := HF.out
                refine ⟨j + 1, keys', bl', pa', hjj, by go_num, hkl', HFIN.out.heap rfl, HKK.out, ?_, ?_, ?_⟩
                · exact set_far (set_far HBX'.out (by show w.heap.size ≠ B1; omega)) (by show w.heap.size ≠ P1; omega)
                · exact ((HBW'.out.drew.setCell (p := ⟨B1, 1, none⟩) (by show w.heap.size ≤ B1; omega) _).drew).setCell (p := ⟨P1, k, none⟩) (by show w.heap.size ≤ P1; omega) _
                · have := HSZ'.out
                  simpa [Hid] using this
              case measure => simp [intOf]; omega
          · obtain rfl : j = l.length := by omega
            go_wp2
            go_roundw
            case rel =>
              have h1 := HLK.out
              subst h1
              rw [part_next L k hlt] at HL HK
              refine ⟨k + 1, keys, bl, pa, by omega, by go_num, by omega, HL.out, HK.out, fun i hi hik => ?_, HBX.out, HBW.out, HSZ.out⟩
              by_cases e : i = k
              · subst e; exact HD.out.symm
              · exact HC.out i hi (by omega)
            case measure => simp [intOf]; omega
      · have e : mergeR up L = ([], (k : Int), d) := by
          unfold mergeR
          have h1 := HLK.out
          subst h1
          rw [if_neg (by omega), badAt_first hlt (fun j hj => HC.out j (by omega) hj) (by rw [← HD.out]; exact hd0), ← HD.out]
        have HE := Lib.hid e
        have hf : (d == 0) = false := by rw [beq_eq_false_iff_ne]; exact hd0
        clear e
        go_wp2
        refine bodyPost_ret (v := .tuple #[.slice none 0 0, .int .i64 (k : Int), .int .i64 d]) (by simp [results, Tryz.results63, go_sem]) rfl ?_
        exact ⟨below_next HBW.out HB1.out, _, _, _, _, rfl, HE.out, Row.nil 0 none (fun _ => rfl)⟩
    · obtain rfl : k = L.length := by omega
      rw [part_all] at HL HK
      obtain ⟨D, hD1, hD2⟩ := HL.out.map
      have HD1 := Lib.hid hD1
      have HD2 := Lib.hid hD2
      clear hD1 hD2
      go_wp2_with (first | (at_range; refine wpList_range_own _ rfl _ 123 rfl 2 124 i64_keyed Tryz.underlying123 ptrElem (w.heap.size + 1) keys.length D rfl HD1.out ?_; intro w0 hrg0 hg0 hs0) | go_in)
      go_frame
      obtain ⟨r, hr⟩ : ∃ r, r = wr.heap.size := ⟨_, rfl⟩
      have hfacts : ∀ p ∈ keys, bl p < r ∧ pa p < r ∧ w.heap.size + 2 ≤ bl p ∧ w.heap.size + 2 ≤ pa p ∧ I64 p := fun p hp =>
        ⟨hr ▸ (Array.getElem?_eq_some_iff.1 (HL.out.cells p hp).1).1, hr ▸ (Array.getElem?_eq_some_iff.1 (HL.out.cells p hp).2).1, (HL.out.from_ p hp).1, (HL.out.from_ p hp).2.1, (HL.out.from_ p hp).2.2⟩
      have HFA := Lib.hid hfacts
      clear hfacts
      rw [← hr] at hrg0 hs0 HSZ
      rw [← hr]
      have HR0 := Lib.hid hr
      have HRW : Hid (w.heap.size + 2 ≤ r) := HSZ
      clear hr
      have HRG0 := Lib.hid hrg0
      have HG0 := Lib.hid hg0
      have HS0 := Lib.hid hs0
      clear hrg0 hg0 hs0
      go_loopw [17] (fun out wx => ∃ (left : Lit → Bool) (cnt : Nat) (vs : List Int), Hid (wx.ranges Tryz.prog 2 ptrElem (w.heap.size + 1) r keys.length D left cnt) ∧ Hid (∀ p, I64 p → left (.int .i64 p) = decide (p ∈ keys ∧ p ∉ vs)) ∧ Hid (vs.Nodup ∧ (∀ p ∈ vs, p ∈ keys) ∧ vs.length + cnt ≤ keys.length) ∧
          Hid (Own (Kd.raw L.length) 105 (r + 1) (fun _ _ => False) wx out (vs.map (rawOf L pa))) ∧ Hid (Cells wx L.length keys L bl pa) ∧ Hid (wx.heap[w.heap.size]? = some (.cells #[.func (.func g2) #[] #[]] 102 (0, 0))) ∧ Hid (Below w.heap.size w wx) ∧ Hid (r + 1 ≤ wx.heap.size))
        (fun _ wx => wx.rangeLeft (w.heap.size + 1) r)
      case atStart =>
        have hs0 := HS0.out
        have hsz := HSZ.out
        have hr := HR0.out
        have hle : wr.heap.size ≤ w0.heap.size := by omega
        refine ⟨_, _, [], HRG0.out, fun p hp => ?_, ⟨List.nodup_nil, fun p h => absurd h (by simp), ?_⟩, Own.nil _ _ _ _ _, ?_, ?_, ?_, by unfold Hid; omega⟩
        · rw [(HD2.out p hp).1]; simp
        · have := HD1.out.size_le; simpa using this
        · exact Cells.grown HL.out.cells HG0.out (fun p hp => ⟨by simp, by simp⟩)
        · exact (HG0.out.block _ (by omega) (by simp)).trans HBX.out
        · exact HBW.out.grown HG0.out HBW.out.size (fun i hi => by cases hi)
      case round =>
        obtain ⟨left, cnt, vs, HRG, HLF, HVS, HOWN, HCL, HBX, HBW, HSZ⟩ := hrel
        obtain ⟨Ao, co, hAo⟩ := HOWN.out.form
        rw [List.length_map] at hAo
        subst hAo
        go_wp2_with (at_next; refine wpList_next_ranges _ rfl _ rfl 2 i64_keyed ptrElem (Value.int .i64) Value.pointer key_inv val_inv (w.heap.size + 1) r keys.length D left cnt rfl HRG.out ?done ?more)
        case done =>
          intro hc0 hl0
          have hall : ∀ p ∈ keys, p ∈ vs := fun p hp => by
            have h1 := HLF.out p (HFA.out p hp).2.2.2.2
            rw [hl0] at h1
            by_cases hv : p ∈ vs
            · exact hv
            · simp [hp, hv] at h1
          have HALL := Lib.hid hall
          clear hc0 hl0 hall
          go_wp2_with fail
          refine (sort_calls up g2 L.length w.heap.size (r + 1) _ _ _ _ _ _ HOWN.out (by have := HVS.out.2.2; simp; omega) HSZ.out HBX.out (by have := HRW.out; omega) HE2.out HR2.out).mono ?_
          rintro e w4 ⟨rfl, hs1, hos, htp, hout, hkeep, l', hperm, hsorted, hrow⟩
          have HS1 := Lib.hid hs1
          have HKEEP := Lib.hid (And.intro hos (And.intro htp (And.intro hout hkeep)))
          have HL1 := Lib.hid (And.intro hperm (And.intro hsorted hrow))
          clear hs1 hos htp hout hkeep hperm hsorted hrow
          go_wp2
          refine bodyPost_ret (v := .tuple #[.slice Ao vs.length co, .int .i64 0, .int .i64 0]) (by simp [results, Tryz.results63, go_sem]) rfl ?_
          obtain ⟨hos, htp, hout, hkeep⟩ := HKEEP.out
          obtain ⟨hperm, hsorted, hrow⟩ := HL1.out
          have hown' := fun i (e : (Value.slice Ao vs.length co).ownBlock = some i) => HOWN.out.base_le i e
          have hrw := HRW.out
          have hsz := HSZ.out
          have hvv : ∀ p, p ∈ vs ↔ p ∈ pricesOf L := fun p => ⟨fun h => (HK.out p).1 (HVS.out.2.1 p h), fun h => HALL.out p ((HK.out p).2 h)⟩
          have hkk : ∀ k, k < r + 1 → w4.heap[k]? = wr.heap[k]? := fun k hk => hkeep k (by omega) (fun e => by have := hown' k (by rw [e]; rfl); omega)
          have hok : ∀ c ∈ L, curveE (afterOf up) c = 0 := fun c hc => by
            obtain ⟨j, hj, rfl⟩ := List.getElem_of_mem hc
            exact HC.out j hj hj
          refine ⟨⟨hos.trans HBW.out.os, htp.trans HBW.out.tape, hout.trans HBW.out.output, Nat.le_trans HBW.out.size HS1.out, fun k hk => (hkk k (by omega)).trans (HBW.out.block k hk)⟩, _, 0, 0, stackOf up L, rfl, ?_, ?_⟩
          · unfold mergeR
            rw [if_neg (by omega), badAt_none.2 hok]
          · rw [sorted_raw HVS.out.1 hperm hsorted hvv] at hrow
            refine raw_level hrow (by omega) hL16 (fun c hc => good_curve (hok c hc)) (fun p hp => ?_)
            have hpk : p ∈ keys := (HK.out p).2 (mem_sortP.1 hp)
            have hf := HFA.out p hpk
            exact ⟨hf.2.2.2.2, by omega, (hkk _ (by omega)).trans (HCL.out p hpk).2⟩
        case more =>
          intro x cp kl y1 y2 wn cnt1 hkx hlk hy hat hrg1 hlt1 hg1 hs1 hen
          obtain ⟨rfl, hx⟩ := key_inv2 x kl hkx
          have hin := (HLF.out x hx).symm.trans hlk
          rw [decide_eq_true_iff] at hin
          obtain rfl : y1 = .lit (.int .i64 (bl x)) := ((HD2.out x hx).2 hin.1 (.lit (.int .i64 0))).symm.trans (hat _) |>.symm
          have hcp := ptr_inv hy
          simp only [Value.pointer.injEq] at hcp
          subst hcp
          have hcn : Cells wn L.length keys L bl pa := HCL.out.grown hg1 (fun p hp => by have := HFA.out p hp; exact ⟨by simp; omega, by simp; omega⟩)
          obtain ⟨hcx, hpx⟩ := hcn x hin.1
          obtain ⟨b, hb⟩ : ∃ b, b = bl x := ⟨_, rfl⟩
          obtain ⟨P, hP⟩ : ∃ P, P = pa x := ⟨_, rfl⟩
          obtain ⟨t, ht⟩ : ∃ t, t = (partsAt L x).sum := ⟨_, rfl⟩
          rw [← hb, ← hP, ← ht] at hcx
          rw [← hb] at hen
          rw [← hb]
          have x0 : wn.cell? ⟨b, 0, none⟩ = some (.int .i64 x) := hcell hcx 0 rfl
          have x1 : wn.cell? ⟨b, 1, none⟩ = some (.int .i64 t) := hcell hcx 1 rfl
          have x2 : wn.cell? ⟨b, 2, none⟩ = some (.slice (some ⟨P, 0, none⟩) L.length L.length) := hcell hcx 2 rfl
          have HRG1 := Lib.hid hrg1
          have HLT1 := Lib.hid hlt1
          have HG1 := Lib.hid hg1
          have HS1 := Lib.hid hs1
          have HIN := Lib.hid hin
          have HX := Lib.hid hx
          have HCN := Lib.hid hcn
          have HRAW : Hid (rawOf L pa x = (x, t, P)) := Lib.hid (by unfold rawOf; rw [ht, hP])
          have HOWNN := Lib.hid (HOWN.out.kept hg1 (.inr (fun e => by have := HOWN.out.base_le r e; omega)) (fun _ _ h => h.elim))
          clear hkx hlk hy hat hrg1 hlt1 hg1 hs1 hin hx hcn hcx hpx hb hP ht
          go_wp2_with (first | (at_builtin; refine wp_append (Kd.raw L.length) rfl _ _ 70 rfl 105 _ 40 Tryz.underlying70 info_level rfl (by decide) (r + 1) (fun _ _ => False) _ (vs.map (rawOf L pa)) rfl ?hown _ [(x, t, P)] rfl ?hel ?hby ?hba ?_) | go_in)
          case hown => exact HOWNN.out.below (below_alloc _ _)
          case hel => exact Elems.one (cs := #[.int .i64 x, .int .i64 t, .slice (some ⟨P, 0, none⟩) L.length L.length]) ⟨rfl, trivial⟩ (alloc_last rfl)
          case hby => have := HVS.out.2.2; simp; omega
          case hba => have := HSZ.out; have := HS1.out; simp; omega
          intro v' w3 hown3 hg3 hat3
          have HO3 := Lib.hid hown3
          have HG3 := Lib.hid hg3
          clear hown3 hg3 hat3 x0 x1 x2 hen
          go_wp2
          go_roundw
          case rel =>
            have hown' := fun i (e : (Value.slice Ao vs.length co).ownBlock = some i) => HOWN.out.base_le i e
            have hsz1 : wn.heap.size = wr.heap.size := HS1.out
            have hrw := HRW.out
            have hsz := HSZ.out
            have hgall := ((World.grownBy_alloc wn (.cells #[.int .i64 x, .int .i64 t, .slice (some ⟨P, 0, none⟩) L.length L.length] 105) none).but (Value.slice Ao vs.length co).ownBlock).andThen HG3.out (fun j hj => .inr hj)
            refine ⟨_, cnt1, vs ++ [x], HRG1.out.kept hgall (fun e => by have := hown' _ e.symm; omega) (fun e => by have := hown' _ e.symm; omega), fun p hp => ?_, ?_, ?_, ?_, ?_, ?_, ?_⟩
            · show (left (.int .i64 p) && !(Lit.int .i64 p).sameKey (.int .i64 x)) = _
              rw [HLF.out p hp]
              by_cases e : p = x
              · subst e
                rw [WideAt.sameKey_self (show WideAt.IsKeyLit (Lit.int .i64 p) from trivial)]
                simp
              · rw [Maps.sameKey_ne (fun h => e (by injection h))]
                simp [e]
            · refine ⟨?_, ?_, ?_⟩
              · rw [List.nodup_append]
                exact ⟨HVS.out.1, by simp, fun a ha b hb => by rw [List.mem_singleton.1 hb]; exact fun e => HIN.out.2 (e ▸ ha)⟩
              · intro p hp
                rcases List.mem_append.1 hp with hp | hp
                · exact HVS.out.2.1 p hp
                · rw [List.mem_singleton.1 hp]; exact HIN.out.1
              · have := HVS.out.2.2
                have := HLT1.out
                simp; omega
            · rw [List.map_append, List.map_singleton, HRAW.out]
              exact HO3.out.mono (fun _ _ h => by first | exact h | exact h.1) (fun _ _ h => h.elim)
            · exact HCN.out.grown hgall (fun p hp => ⟨fun e => by have := hown' _ e.symm; have := HFA.out p hp; omega, fun e => by have := hown' _ e.symm; have := HFA.out p hp; omega⟩)
            · have hlt := (Array.getElem?_eq_some_iff.1 HBX.out).1
              exact (hgall.block _ (by omega) (fun e => by have := hown' _ e.symm; omega)).trans ((HG1.out.block _ hlt (by simp; omega)).trans HBX.out)
            · exact ((HBW.out.grown HG1.out HBW.out.size (fun i hi => by injection hi with hi; omega)).grown hgall (by have := HBW.out.size; omega) (fun i hi => by have := hown' i hi; omega))
            · have := hgall.size
              unfold Hid; omega
          case measure =>
            have hown' := fun i (e : (Value.slice Ao vs.length co).ownBlock = some i) => HOWN.out.base_le i e
            have hgall := ((World.grownBy_alloc wn (.cells #[.int .i64 x, .int .i64 t, .slice (some ⟨P, 0, none⟩) L.length L.length] 105) none).but (Value.slice Ao vs.length co).ownBlock).andThen HG3.out (fun j hj => .inr hj)
            have h1 := (HRG1.out.kept hgall (fun e => by have := hown' _ e.symm; have := HRW.out; omega) (fun e => by have := hown' _ e.symm; omega)).left_eq
            have h2 := HRG.out.left_eq
            have h3 := HLT1.out
            show World.rangeLeft _ _ _ < World.rangeLeft _ _ _
            rw [h1, h2]
            exact h3
#print axioms merge_calls
end Go.Proofs.YtlaemhigmgmgjaaGreat
/- stack: MergeOffers, MergeBids: what they return. No condition. -/
namespace Go.Proofs.YtlaemhigmgmgjaaGreat
set_option linter.unusedVariables false
set_option linter.unusedSimpArgs false
open Go.RowKit

set_option maxRecDepth 100000 in
set_option maxHeartbeats 1000000 in
theorem offers_calls (ok : Nat → Option Obj → Prop) (A : Option Addr) (n c : Nat) (L : List Crv) (w : World) (h : Row Kd.curve ok w (.slice A n c) L) :
    Calls Tryz.prog 39 #[.slice A n c] w fun e w' => Below w.heap.size w w' ∧ ∃ v i er s, e = .returned (.tuple #[v, .int .i64 i, .int .i64 er]) ∧ mergeR true L = (s, i, er) ∧ Row Kd.level (New w.heap.size) w' v s := by
  have HR := Lib.hid h
  clear h
  go_enter Tryz.func39, Tryz.ntmps39
  go_wp2_with fail
  refine (merge_calls true 16 64 ok _ _ _ L _ HR.out (enters_of Tryz.func16 (by kernel_rfl) rfl) (fun A n c l w h => check_up ok A n c l w h) (enters_of Tryz.func64 (by kernel_rfl) rfl) (fun a b w => cmpi_calls a b w)).mono ?_
  rintro e w1 ⟨hb1, v, i, er, s, rfl, hs, hv⟩
  have H := Lib.hid (And.intro hb1 (And.intro hs hv))
  clear hb1 hs hv
  go_wp2
  refine bodyPost_ret (v := .tuple #[v, .int .i64 i, .int .i64 er]) (by simp [results, Tryz.results39, go_sem]) rfl ?_
  exact ⟨H.out.1, _, _, _, _, rfl, H.out.2.1, H.out.2.2⟩
#print axioms offers_calls

set_option maxRecDepth 100000 in
set_option maxHeartbeats 1000000 in
theorem bids_calls (ok : Nat → Option Obj → Prop) (A : Option Addr) (n c : Nat) (L : List Crv) (w : World) (h : Row Kd.curve ok w (.slice A n c) L) :
    Calls Tryz.prog 40 #[.slice A n c] w fun e w' => Below w.heap.size w w' ∧ ∃ v i er s, e = .returned (.tuple #[v, .int .i64 i, .int .i64 er]) ∧ mergeR false L = (s, i, er) ∧ Row Kd.level (New w.heap.size) w' v s := by
  have HR := Lib.hid h
  clear h
  go_enter Tryz.func40, Tryz.ntmps40
  go_wp2_with fail
  refine (merge_calls false 15 65 ok _ _ _ L _ HR.out (enters_of Tryz.func15 (by kernel_rfl) rfl) (fun A n c l w h => check_down ok A n c l w h) (enters_of Tryz.func65 (by kernel_rfl) rfl) (fun a b w => rowdown_calls a b w)).mono ?_
  rintro e w1 ⟨hb1, v, i, er, s, rfl, hs, hv⟩
  have H := Lib.hid (And.intro hb1 (And.intro hs hv))
  clear hb1 hs hv
  go_wp2
  refine bodyPost_ret (v := .tuple #[v, .int .i64 i, .int .i64 er]) (by simp [results, Tryz.results40, go_sem]) rfl ?_
  exact ⟨H.out.1, _, _, _, _, rfl, H.out.2.1, H.out.2.2⟩
#print axioms bids_calls
end Go.Proofs.YtlaemhigmgmgjaaGreat
/- append at a step of a region that draws its order. No condition. -/
namespace Go.Proofs.YtlaemhigmgmgjaaGreat
set_option linter.unusedVariables false
set_option linter.unusedSimpArgs false
open Go.RowKit

section
variable {P : Program}
theorem run_append {α : Type} (K : Kd α) {w : World} (t ty : TypeId) (e : TypeId) (z : Value) (bytes : Nat) (ht : P.underlying t = some (.slice e)) (hi : (P.info? e).map (fun i => (i.zero, i.size, i.bytes)) = some (some z, K.sz, bytes)) (hz : z.cells.size = K.sz) (hby : 1 ≤ bytes)
    (base : Nat) (ok : Nat → Option Obj → Prop) (v : Value) (l : List α) (hown : Own K e base ok w v l)
    (vx : Value) (l2 : List α) (hel : Elems K ok w vx l2) (hbytes : (l.length + l2.length) * bytes ≤ 140737488355328) (hbase : base ≤ w.heap.size) :
    ∃ v' w', (Builtin.append_ #[t, t] ty #[v, vx]).run P w = .ok v' w' ∧ Own K e base (fun k o => ok k o ∧ k < w.heap.size) w' v' (l ++ l2) ∧ w.grownBy w' v.ownBlock ∧ (v'.ownBlock = v.ownBlock ∨ v'.ownBlock = some w.heap.size) := by
  obtain ⟨css, hl, hr, hrow, hne, hm⟩ := hown
  obtain ⟨ad, c, css2, rfl, hl2, hr2, hcell⟩ := hel
  obtain ⟨i0, hi0, hz0, hz1, hz2⟩ := info_parts hi
  have hlen2 : ∀ cs ∈ css2, cs.length = K.sz := by
    intro cs hcs
    obtain ⟨n, hn, rfl⟩ := List.getElem_of_mem hcs
    exact K.len (hr2 n (by omega) hn)
  have hsmall : l.length + l2.length ≤ 140737488355328 := Nat.le_trans (Nat.le_mul_of_pos_right _ hby) hbytes
  obtain ⟨v', w', hrun, hown', hg, hnil, hat⟩ := run_append_own_at (P := P) w base t ty e i0 z K.sz bytes ht hi0 hz0 hz1 hz2 hz K.pos v l.length css.flatten hrow ad l2.length c css2.flatten (by rw [flatten_len _ hlen2, hl2]) hcell
    (fun u hu => by
      obtain ⟨cs, hcs, hu⟩ := List.mem_flatten.1 hu
      obtain ⟨n, hn, rfl⟩ := List.getElem_of_mem hcs
      exact K.one (hr2 n (by omega) hn) u hu) (by simp only [maxLen]; omega) hbytes hbase
  have hkeep : ∀ {y : α} {cs : List Value}, K.rel ok w y cs → K.rel (fun k o => ok k o ∧ k < w.heap.size) w' y cs := by
    intro y cs hy
    exact K.mono (fun _ _ hk => ⟨hk.1, hk.2.1⟩) (K.keep (ok := fun k o => ok k o ∧ k < w.heap.size ∧ IsCells o) (w' := w') (fun k hk => hg.block k hk.2.1 (fun he => hne k _ hk.1 he.symm)) (K.live hy))
  refine ⟨v', w', hrun, ⟨css ++ css2, by simp [hl, hl2], fun j hj hj' => ?_, by rw [List.length_append, List.flatten_append]; exact hown', fun k o hk => ?_, by rw [List.length_append]; exact hsmall⟩, hg, hat⟩
  · by_cases hjl : j < l.length
    · rw [List.getElem_append_left hjl, List.getElem_append_left (by omega)]
      exact hkeep (hr j hjl (by omega))
    · have e1 : (l ++ l2)[j] = l2[j - l.length]'(by simp at hj; omega) := List.getElem_append_right (by omega)
      have e2 : (css ++ css2)[j] = css2[j - l.length]'(by simp at hj; omega) := by rw [List.getElem_append_right (by omega)]; simp [hl]
      rw [e1, e2]
      exact hkeep (hr2 _ _ _)
  · rcases hat with hat | hat
    · rw [hat]; exact hne k o hk.1
    · rw [hat]; intro he; injection he with he; omega

/-- append(s, x...): s nil or the call's own, x any row, nil too. -/
theorem run_append_row {α : Type} (K : Kd α) {w : World} (t ty : TypeId) (e : TypeId) (z : Value) (bytes : Nat) (ht : P.underlying t = some (.slice e)) (hi : (P.info? e).map (fun i => (i.zero, i.size, i.bytes)) = some (some z, K.sz, bytes)) (hz : z.cells.size = K.sz) (hby : 1 ≤ bytes)
    (base : Nat) (ok : Nat → Option Obj → Prop) (v : Value) (l : List α) (hown : Own K e base ok w v l)
    (vx : Value) (l2 : List α) (ok2 : Nat → Option Obj → Prop) (hrow : Row K ok2 w vx l2) (hok2 : ∀ x cs, K.rel ok2 w x cs → K.rel ok w x cs) (hbytes : (l.length + l2.length) * bytes ≤ 140737488355328) (hbase : base ≤ w.heap.size) :
    ∃ v' w', (Builtin.append_ #[t, t] ty #[v, vx]).run P w = .ok v' w' ∧ Own K e base (fun k o => ok k o ∧ k < w.heap.size) w' v' (l ++ l2) ∧ w.grownBy w' v.ownBlock ∧ (v'.ownBlock = v.ownBlock ∨ v'.ownBlock = some w.heap.size) := by
  obtain ⟨A, c, hv, ⟨hc, hn⟩, hm, hr⟩ := hrow
  subst hv
  cases A with
  | some ad =>
    obtain ⟨ad', c', css, q1, q2, q3, q4⟩ := Row.elems (K := K) (ok := ok2) (w := w) (l := l2) ⟨some ad, c, rfl, ⟨hc, hn⟩, hm, hr⟩
    exact run_append K t ty e z bytes ht hi hz hby base ok v l hown _ l2 ⟨ad', c', css, q1, q2, fun j a b => hok2 _ _ (q3 j a b), q4⟩ hbytes hbase
  | none =>
    obtain rfl := hn rfl
    obtain rfl : l2 = [] := List.eq_nil_of_length_eq_zero (by omega)
    obtain ⟨i0, hi0, hz0, hz1, hz2⟩ := info_parts hi
    have h1 := hown.live
    obtain ⟨css, hl, hr', hrow', hne, hm'⟩ := hown
    have hrun := run_append_owned_none (P := P) (w := w) base t ty e i0 K.sz ht hi0 v l.length css.flatten hrow'
    exact ⟨v, w, hrun, by rw [List.append_nil]; exact h1, ⟨rfl, rfl, rfl, Nat.le_refl _, fun _ _ _ => rfl⟩, .inl rfl⟩

/-- At a step of a region that draws. -/
theorem step_append {ops : Array Oper} {o : Oper} {a : Act} {w : World} {k : Act → World → Prop} {Q : Exit → Act → World → Prop} {E : Prop} (hgd : o.guard = none) (s x : Operand) (t : TypeId)
    (ho : o.op = .call { callee := .builtin .append, args := #[s, x], argTypes := #[t, t] }) (v vx : Value) (hs : a.eval s = v) (hx : a.eval x = vx) (R : Value → World → Prop)
    (hrun : ∃ v' w', (Builtin.append_ #[t, t] o.type #[v, vx]).run P w = .ok v' w' ∧ R v' w') (h : ∀ v' w', R v' w' → k (a.put o.dst v') w') :
    if Region.wanted o (yielded ops a.tmps) = true then Oper.wp P o a w k Q else E := by
  have hw : Region.wanted o (yielded ops a.tmps) = true := by simp [Region.wanted, hgd]
  rw [if_pos hw]
  obtain ⟨v', w', hr, hR⟩ := hrun
  unfold Oper.wp execOp
  simp only [ho, resolve, invoke, builtin, Sem.run_bind, Sem.run_pure, Result.andThen_ok, List.map_toArray, List.map_cons, List.map_nil, hs, hx, hr]
  exact h v' w' hR
end
#print axioms step_append
#print axioms run_append_row
end Go.Proofs.YtlaemhigmgmgjaaGreat
/- Rows of blocks that lie ready; Long; pairs of numbers. No condition beyond sizes. -/
namespace Go.Proofs.YtlaemhigmgmgjaaGreat
set_option linter.unusedVariables false
set_option linter.unusedSimpArgs false
open Go.RowKit

theorem bd_alloc0 {w W : World} (h : Below w.heap.size w W) (o : Obj) : Below w.heap.size w (W.alloc o) := h.alloc h.size o
theorem bd_drew {w W : World} (h : Below w.heap.size w W) : Below w.heap.size w W.drew := h.drew

def longP (L : List Crv) : Bool := decide (40 < L.length) || L.any (fun c => decide (20 < c.length))

set_option maxRecDepth 100000 in
set_option maxHeartbeats 1000000 in
theorem long_calls (ok : Nat → Option Obj → Prop) (A : Option Addr) (n c : Nat) (L : List Crv) (w : World) (h : Row Kd.curve ok w (.slice A n c) L) :
    Calls Tryz.prog 10 #[.slice A n c] w fun e w' => w' = w ∧ e = .returned (.bool (longP L)) := by
  obtain rfl := h.len
  have hm := h.small
  have HR := Lib.hid h
  clear h
  go_enter Tryz.func10, Tryz.ntmps10
  by_cases h40 : 40 < L.length
  · have e : longP L = true := by simp [longP, h40]
    have HE := Lib.hid e
    have hgt : (40 : Int) < (L.length : Int) := by omega
    clear e
    go_wp2
    go_ret
    exact ⟨rfl, by rw [HE.out]; rfl⟩
  have hgt : (L.length : Int) ≤ 40 := by omega
  have HE : Hid (longP L = L.any (fun c => decide (20 < c.length))) := Lib.hid (by simp [longP, h40])
  clear h40
  go_wp2_with fail
  go_loopw [3] (fun i wr => ∃ k : Nat, k ≤ L.length ∧ i = .int .i64 k ∧ Hid ((L.take k).any (fun c => decide (20 < c.length)) = false) ∧ wr = w)
    (fun i _ => L.length - (intOf i).toNat)
  case atStart => exact ⟨0, Nat.zero_le _, rfl, by simp [Hid], rfl⟩
  case round =>
    obtain ⟨k, hk, rfl, HI, rfl⟩ := hrel
    by_cases hlt : k < L.length
    · obtain ⟨b, off, A', c', rfl, hcl, hrow⟩ := curve_cell HR.out hlt
      have ht := List.take_succ_eq_append_getElem hlt
      obtain ⟨l, hl⟩ : ∃ l, l = L[k] := ⟨_, rfl⟩
      rw [← hl] at hcl ht
      have hlm := hrow.small
      rw [← hl] at hlm
      have HT := Lib.hid ht
      have HM : Hid (l ∈ L) := Lib.hid (by rw [hl]; exact List.getElem_mem _)
      clear hl ht hrow
      by_cases hbig : 20 < l.length
      · have e : longP L = true := by rw [HE.out]; exact List.any_eq_true.2 ⟨l, HM.out, by simpa using hbig⟩
        have HE2 := Lib.hid e
        have hb2 : (20 : Int) < (l.length : Int) := by omega
        clear e hbig
        go_wp2
        go_ret
        exact ⟨rfl, by rw [HE2.out]; rfl⟩
      · have hb2 : (l.length : Int) ≤ 20 := by omega
        have e : (L.take (k + 1)).any (fun c => decide (20 < c.length)) = false := by rw [HT.out, List.any_append, HI.out]; simp; omega
        have HE2 := Lib.hid e
        clear e hbig
        go_wp2
        go_roundw
        case rel => exact ⟨k + 1, by omega, by go_num, HE2.out, trivial⟩
        case measure => simp [intOf]; omega
    · obtain rfl : k = L.length := by omega
      have e : longP L = false := by rw [HE.out]; have := HI.out; rwa [List.take_length] at this
      have HE2 := Lib.hid e
      clear e
      go_wp2
      go_ret
      exact ⟨rfl, by rw [HE2.out]; rfl⟩

def pairsOf : List Int → Crv
  | q :: p :: r => (q, p) :: pairsOf r
  | _ => []
theorem pairsOf_len : ∀ l : List Int, (pairsOf l).length = l.length / 2
  | [] => rfl
  | [_] => by simp [pairsOf]
  | q :: p :: r => by
    have := pairsOf_len r
    simp only [pairsOf, List.length_cons, this]
    omega
theorem pairsOf_get : ∀ (l : List Int) (k : Nat) (h : k < (pairsOf l).length) (h0 : 2 * k < l.length) (h1 : 2 * k + 1 < l.length), (pairsOf l)[k] = (l[2 * k], l[2 * k + 1])
  | [], _, h, _, _ => absurd h (by simp [pairsOf])
  | [_], _, h, _, _ => absurd h (by simp [pairsOf])
  | q :: p :: r, 0, _, _, _ => rfl
  | q :: p :: r, k + 1, h, h0, h1 => by
    have := pairsOf_get r k (by simpa [pairsOf] using h) (by simp at h0; omega) (by simp at h1; omega)
    have e0 : 2 * (k + 1) = 2 * k + 1 + 1 := by omega
    simp only [pairsOf, List.getElem_cons_succ, this, e0]
theorem info_step : (Tryz.prog.info? 99).map (fun i => (i.zero, i.size, i.bytes)) = some (some (.agg #[.int .i64 0, .int .i64 0]), 2, 16) := by kernel_rfl

def AnyB : Nat → Option Obj → Prop := fun _ _ => True
theorem Row.all {α : Type} {K : Kd α} {ok : Nat → Option Obj → Prop} {w : World} {v : Value} {l : List α} (h : Row K ok w v l) : Row K AnyB w v l := h.mono fun _ _ _ => trivial
theorem Row.blk {α : Type} (K : Kd α) {ok : Nat → Option Obj → Prop} {W : World} {b c n : Nat} {e : TypeId} {fr : Nat × Nat} {cs : Array Value} (l : List α) (css : List (List Value)) (hh : W.heap[b]? = some (.cells cs e fr)) (hcs : cs.toList = css.flatten) (hl : css.length = l.length)
    (hr : ∀ j (hj : j < l.length) (hj' : j < css.length), K.rel ok W l[j] css[j]) (hb : ok b W.heap[b]?) (hn : n = l.length) (hc : l.length ≤ c) (hm : l.length ≤ 140737488355328) : Row K ok W (.slice (some ⟨b, 0, none⟩) n c) l := by
  subst hn
  have hlen : ∀ x ∈ css, x.length = K.sz := by
    intro x hx
    obtain ⟨n, hn, rfl⟩ := List.getElem_of_mem hx
    exact K.len (hr n (by omega) hn)
  refine ⟨_, c, rfl, ⟨hc, fun h => by cases h⟩, hm, fun _ => ⟨b, 0, rfl, hb, fun j hj => ⟨css[j]'(by omega), hr j hj (by omega), fun i hi => ?_⟩⟩⟩
  have h1 := flatten_get css j i hlen (by omega) hi
  rw [← hcs, Array.getElem?_toList] at h1
  rw [Nat.zero_add]
  exact hcell hh _ h1
theorem ints_row {W : World} {b c n : Nat} {e : TypeId} {fr : Nat × Nat} (l : List Int) (hh : W.heap[b]? = some (.cells (l.map (fun x => Value.int .i64 x)).toArray e fr)) (hi : ∀ x ∈ l, 0 ≤ x ∧ x ≤ 1000) (hn : n = l.length) (hc : l.length ≤ c) (hm : l.length ≤ 140737488355328) : Row Kd.i64 AnyB W (.slice (some ⟨b, 0, none⟩) n c) l := by
  have e1 : ∀ l : List Int, (l.map (fun x => [Value.int .i64 x])).flatten = l.map (fun x => Value.int .i64 x) := by
    intro l
    induction l with
    | nil => rfl
    | cons a r ih => simp [ih]
  refine Row.blk Kd.i64 l (l.map (fun x => [Value.int .i64 x])) hh ?_ (by simp) (fun j hj hj' => ?_) trivial hn hc hm
  · rw [e1]
  · rw [List.getElem_map]; have := hi _ (List.getElem_mem hj); exact ⟨rfl, by omega, by omega⟩
theorem two_rows {α : Type} (K : Kd α) {W : World} {b c : Nat} {e : TypeId} {fr : Nat × Nat} {v u : Value} {l k : List α} (hh : W.heap[b]? = some (.cells #[v, u] e fr)) (h1 : Row K AnyB W v l) (h2 : Row K AnyB W u k) (hc : 2 ≤ c) : Row (Kd.slice K) AnyB W (.slice (some ⟨b, 0, none⟩) 2 c) [l, k] :=
  Row.blk (Kd.slice K) [l, k] [[v], [u]] hh rfl rfl (fun j hj hj' => by
    match j, hj with
    | 0, _ => exact ⟨v, rfl, h1⟩
    | 1, _ => exact ⟨u, rfl, h2⟩) trivial rfl hc (by simp)
theorem levels2 {W : World} {b c : Nat} {e : TypeId} {fr : Nat × Nat} {v u : Value} {p q x y : Int} {l k : List Int} (hh : W.heap[b]? = some (.cells #[.int .i64 p, .int .i64 q, v, .int .i64 x, .int .i64 y, u] e fr)) (hp : I64 p) (hq : I64 q) (hx : I64 x) (hy : I64 y) (h1 : Row Kd.i64 AnyB W v l) (h2 : Row Kd.i64 AnyB W u k) (hc : 2 ≤ c) :
    Row Kd.level AnyB W (.slice (some ⟨b, 0, none⟩) 2 c) [(p, q, l), (x, y, k)] :=
  Row.blk Kd.level [(p, q, l), (x, y, k)] [[.int .i64 p, .int .i64 q, v], [.int .i64 x, .int .i64 y, u]] hh rfl rfl (fun j hj hj' => by
    match j, hj with
    | 0, _ => exact Kd.level_mk hp hq h1
    | 1, _ => exact Kd.level_mk hx hy h2) trivial rfl hc (by simp)
theorem levels3 {W : World} {b c : Nat} {e : TypeId} {fr : Nat × Nat} {v u t : Value} {p q x y r s : Int} {l k m : List Int} (hh : W.heap[b]? = some (.cells #[.int .i64 p, .int .i64 q, v, .int .i64 x, .int .i64 y, u, .int .i64 r, .int .i64 s, t] e fr)) (hp : I64 p) (hq : I64 q) (hx : I64 x) (hy : I64 y) (hr : I64 r) (hs : I64 s)
    (h1 : Row Kd.i64 AnyB W v l) (h2 : Row Kd.i64 AnyB W u k) (h3 : Row Kd.i64 AnyB W t m) (hc : 3 ≤ c) :
    Row Kd.level AnyB W (.slice (some ⟨b, 0, none⟩) 3 c) [(p, q, l), (x, y, k), (r, s, m)] :=
  Row.blk Kd.level [(p, q, l), (x, y, k), (r, s, m)] [[.int .i64 p, .int .i64 q, v], [.int .i64 x, .int .i64 y, u], [.int .i64 r, .int .i64 s, t]] hh rfl rfl (fun j hj hj' => by
    match j, hj with
    | 0, _ => exact Kd.level_mk hp hq h1
    | 1, _ => exact Kd.level_mk hx hy h2
    | 2, _ => exact Kd.level_mk hr hs h3) trivial rfl hc (by simp)
theorem i64_small {x : Int} (h0 : 0 ≤ x) (h1 : x ≤ 1000) : I64 x := ⟨by omega, by omega⟩

end Go.Proofs.YtlaemhigmgmgjaaGreat
