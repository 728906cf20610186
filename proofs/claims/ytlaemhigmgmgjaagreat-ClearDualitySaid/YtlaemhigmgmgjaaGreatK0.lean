/- Several texts of my own, joined. No condition beyond what each theorem states. -/
import Derived.Test.YtlaemhigmgmgjaaGreatRows
import Derived.WalkKit
import Derived.WalkSpells
import Derived.WalkLawsBesides
import Derived.Lib.Hide
import Derived.Deep.QuietTactic
import Derived.BigQuiet
import Derived.Deep.RegionHeld3
import Derived.Deep.LoopGhost
import Derived.Deep.DeepFit
import Derived.Maps.AppendAt
import Derived.Laws.ResultCell
import Derived.Laws.EntriesVeiled
import Derived.Laws.AppendOwnNone
import Derived.Deep.OwnRows
import Derived.RangeFuncNested
import Derived.RangeFuncBound
import Derived.RangeFuncBox
import Derived.RangeFuncCalls
import Derived.RangeFuncLeaves
import Derived.Shelf.Abstract
import Derived.OwnWalkIn
import Derived.TacticsInMore
import Derived.LoopNIn
import Derived.LoopIn
/- Words of my own: how data lie in memory (rows of a kind), and what growth of the world keeps. No condition. -/
namespace Go.Proofs.YtlaemhigmgmgjaaGreat
set_option linter.unusedVariables false
set_option linter.unusedSimpArgs false
open Go.RowKit

/-- The block holds cells. -/
def IsCells (o : Option Obj) : Prop := ∃ cs e fr, o = some (.cells cs e fr)
theorem cells_of_cell {w : World} {a : Addr} {v : Value} (h : w.cell? a = some v) : IsCells w.heap[a.block]? := by
  unfold World.cell? at h
  split at h
  · rename_i cs e fr hh; exact ⟨cs, e, fr, hh⟩
  · cases h
/-- A kind of data: how many cells, and how a datum lies in them; what it leads to lies in the blocks of ok. -/
structure Kd (α : Type) where
  sz : Nat
  pos : 0 < sz
  rel : (Nat → Option Obj → Prop) → World → α → List Value → Prop
  len : ∀ {ok : Nat → Option Obj → Prop} {w : World} {x : α} {cs : List Value}, rel ok w x cs → cs.length = sz
  one : ∀ {ok : Nat → Option Obj → Prop} {w : World} {x : α} {cs : List Value}, rel ok w x cs → ∀ v ∈ cs, v.oneCell' = true
  mono : ∀ {ok ok' : Nat → Option Obj → Prop} {w : World} {x : α} {cs : List Value}, (∀ k o, ok k o → ok' k o) → rel ok w x cs → rel ok' w x cs
  live : ∀ {ok : Nat → Option Obj → Prop} {w : World} {x : α} {cs : List Value}, rel ok w x cs → rel (fun k o => ok k o ∧ k < w.heap.size ∧ IsCells o) w x cs
  keep : ∀ {ok : Nat → Option Obj → Prop} {w w' : World} {x : α} {cs : List Value}, (∀ k, ok k w.heap[k]? → w'.heap[k]? = w.heap[k]?) → rel ok w x cs → rel ok w' x cs

/-- A slice that is read. -/
def Row {α : Type} (K : Kd α) (ok : Nat → Option Obj → Prop) (w : World) (v : Value) (l : List α) : Prop :=
  ∃ (A : Option Addr) (c : Nat), v = .slice A l.length c ∧ (l.length ≤ c ∧ (A = none → c = 0)) ∧ l.length ≤ 140737488355328 ∧
    (0 < l.length → ∃ b off, A = some ⟨b, off, none⟩ ∧ ok b w.heap[b]? ∧
      ∀ j (h : j < l.length), ∃ cs, K.rel ok w l[j] cs ∧ ∀ i (hi : i < cs.length), w.cell? ⟨b, off + j * K.sz + i, none⟩ = some cs[i])

section
variable {α : Type} {K : Kd α} {ok ok' : Nat → Option Obj → Prop} {w w' : World} {v : Value} {l : List α}
theorem Row.mono (h : Row K ok w v l) (ho : ∀ k o, ok k o → ok' k o) : Row K ok' w v l := by
  obtain ⟨A, c, hv, hc, hm, hr⟩ := h
  refine ⟨A, c, hv, hc, hm, fun hp => ?_⟩
  obtain ⟨b, off, hA, hb, hj⟩ := hr hp
  exact ⟨b, off, hA, ho b _ hb, fun j h => let ⟨cs, h1, h2⟩ := hj j h; ⟨cs, K.mono ho h1, h2⟩⟩
theorem Row.keep (h : Row K ok w v l) (hk : ∀ k, ok k w.heap[k]? → w'.heap[k]? = w.heap[k]?) : Row K ok w' v l := by
  obtain ⟨A, c, hv, hc, hm, hr⟩ := h
  refine ⟨A, c, hv, hc, hm, fun hp => ?_⟩
  obtain ⟨b, off, hA, hb, hj⟩ := hr hp
  exact ⟨b, off, hA, by rw [hk b hb]; exact hb, fun j h => let ⟨cs, h1, h2⟩ := hj j h; ⟨cs, K.keep hk h1, fun i hi => (World.cell?_of_block (hk b hb)).trans (h2 i hi)⟩⟩
theorem Row.live (h : Row K ok w v l) : Row K (fun k o => ok k o ∧ k < w.heap.size ∧ IsCells o) w v l := by
  obtain ⟨A, c, hv, hc, hm, hr⟩ := h
  refine ⟨A, c, hv, hc, hm, fun hp => ?_⟩
  obtain ⟨b, off, hA, hb, hj⟩ := hr hp
  refine ⟨b, off, hA, ⟨hb, ?_⟩, fun j h => let ⟨cs, h1, h2⟩ := hj j h; ⟨cs, K.live h1, h2⟩⟩
  obtain ⟨cs, h1, h2⟩ := hj 0 hp
  have h3 := h2 0 (by rw [K.len h1]; exact K.pos)
  exact ⟨World.block_lt_of_cell? w _ h3, cells_of_cell h3⟩
theorem Row.below (h : Row K ok w v l) (hb : Below w.heap.size w w') : Row K ok w' v l :=
  (h.live.keep (fun k hk => hb.block k hk.2.1)).mono (fun _ _ hk => hk.1)
theorem Kd.below {x : α} {cs : List Value} (h : K.rel ok w x cs) (hb : Below w.heap.size w w') : K.rel ok w' x cs :=
  K.mono (fun _ _ hk => hk.1) (K.keep (fun k hk => hb.block k hk.2.1) (K.live h))
theorem Row.nil (c : Nat) (A : Option Addr) (hc : A = none → c = 0) : Row K ok w (.slice A 0 c) [] := ⟨A, c, rfl, ⟨Nat.zero_le _, hc⟩, by simp, fun h => absurd h (by simp)⟩
theorem Row.small (h : Row K ok w v l) : l.length ≤ 140737488355328 := let ⟨_, _, _, _, hm, _⟩ := h; hm
/-- A row that is read: its value's shape, and, where it isn't empty, where it lies. -/
theorem Row.form (h : Row K ok w v l) : ∃ (A : Option Addr) (c : Nat), v = .slice A l.length c ∧ (l.length ≤ c ∧ (A = none → c = 0)) ∧ l.length ≤ 140737488355328 ∧ (l = [] ∨ ∃ b off, A = some ⟨b, off, none⟩ ∧ ok b w.heap[b]? ∧ b < w.heap.size ∧
      ∀ j (h : j < l.length), ∃ cs, K.rel ok w l[j] cs ∧ ∀ i (hi : i < cs.length), w.cell? ⟨b, off + j * K.sz + i, none⟩ = some cs[i]) := by
  obtain ⟨A, c, hv, hc, hm, hr⟩ := h
  refine ⟨A, c, hv, hc, hm, ?_⟩
  cases l with
  | nil => exact .inl rfl
  | cons x l =>
    obtain ⟨b, off, hA, hb, hj⟩ := hr (by simp)
    refine .inr ⟨b, off, hA, hb, ?_, hj⟩
    obtain ⟨cs, h1, h2⟩ := hj 0 (by simp)
    exact World.block_lt_of_cell? w _ (h2 0 (by rw [K.len h1]; exact K.pos))
end

/-! ### Kinds -/
def Kd.slice {α : Type} (K : Kd α) : Kd (List α) where
  sz := 1
  pos := by decide
  rel := fun ok w x cs => ∃ v, cs = [v] ∧ Row K ok w v x
  len := fun ⟨_, h, _⟩ => by rw [h]; rfl
  one := fun ⟨v, h, r⟩ u hu => by
    obtain ⟨A, c, hv, _⟩ := r
    rw [h] at hu
    obtain rfl := List.mem_singleton.1 hu
    rw [hv]; rfl
  mono := fun ho ⟨v, h, r⟩ => ⟨v, h, r.mono ho⟩
  live := fun ⟨v, h, r⟩ => ⟨v, h, r.live⟩
  keep := fun hk ⟨v, h, r⟩ => ⟨v, h, r.keep hk⟩
def Kd.pair {α β : Type} (K : Kd α) (L : Kd β) : Kd (α × β) where
  sz := K.sz + L.sz
  pos := Nat.lt_of_lt_of_le K.pos (Nat.le_add_right _ _)
  rel := fun ok w x cs => ∃ c1 c2, cs = c1 ++ c2 ∧ K.rel ok w x.1 c1 ∧ L.rel ok w x.2 c2
  len := fun ⟨c1, c2, h, r, s⟩ => by rw [h, List.length_append, K.len r, L.len s]
  one := fun ⟨c1, c2, h, r, s⟩ u hu => by
    rw [h] at hu
    exact (List.mem_append.1 hu).elim (K.one r u) (L.one s u)
  mono := fun ho ⟨c1, c2, h, r, s⟩ => ⟨c1, c2, h, K.mono ho r, L.mono ho s⟩
  live := fun ⟨c1, c2, h, r, s⟩ => ⟨c1, c2, h, K.live r, L.live s⟩
  keep := fun hk ⟨c1, c2, h, r, s⟩ => ⟨c1, c2, h, K.keep hk r, L.keep hk s⟩
/-- A kind that leads nowhere: each datum's cells are a function of it, under a bound. -/
def Kd.flat {α : Type} (sz : Nat) (pos : 0 < sz) (ok : α → Prop) (enc : α → List Value) (hl : ∀ x, (enc x).length = sz) (h1 : ∀ x, ∀ v ∈ enc x, v.oneCell' = true) : Kd α where
  sz := sz
  pos := pos
  rel := fun _ _ x cs => cs = enc x ∧ ok x
  len := fun ⟨h, _⟩ => by rw [h, hl]
  one := fun ⟨h, _⟩ => by rw [h]; exact h1 _
  mono := fun _ h => h
  live := fun h => h
  keep := fun _ h => h
def I64 (x : Int) : Prop := -9223372036854775808 ≤ x ∧ x ≤ 9223372036854775807
abbrev Kd.i64 : Kd Int := Kd.flat 1 (by decide) I64 (fun x => [.int .i64 x]) (fun _ => rfl) (fun _ v hv => by obtain rfl := List.mem_singleton.1 hv; rfl)
abbrev Kd.u32 : Kd Nat := Kd.flat 1 (by decide) (fun x => x < 4294967296) (fun x => [.int .u32 x]) (fun _ => rfl) (fun _ v hv => by obtain rfl := List.mem_singleton.1 hv; rfl)
abbrev Kd.bool : Kd Bool := Kd.flat 1 (by decide) (fun _ => True) (fun x => [.bool x]) (fun _ => rfl) (fun _ v hv => by obtain rfl := List.mem_singleton.1 hv; rfl)
/-- A step: quantity and price. -/
abbrev Kd.step : Kd (Int × Int) := Kd.flat 2 (by decide) (fun s => I64 s.1 ∧ I64 s.2) (fun s => [.int .i64 s.1, .int .i64 s.2]) (fun _ => rfl) (fun _ v hv => by simp only [List.mem_cons, List.not_mem_nil, or_false] at hv; rcases hv with rfl | rfl <;> rfl)
abbrev Kd.curve : Kd (List (Int × Int)) := Kd.slice Kd.step
/-- A level: price, quantity, parts. -/
abbrev Kd.level : Kd (Int × Int × List Int) := Kd.pair Kd.i64 (Kd.pair Kd.i64 (Kd.slice Kd.i64))
/-- An integer: its sign and its words. -/
abbrev Kd.z : Kd (Bool × List Nat) := Kd.pair Kd.bool (Kd.slice Kd.u32)
abbrev Kd.q : Kd ((Bool × List Nat) × (Bool × List Nat)) := Kd.pair Kd.z Kd.z

section
variable {ok : Nat → Option Obj → Prop} {w : World} {cs : List Value}
theorem Kd.level_open {p q : Int} {l : List Int} (h : Kd.level.rel ok w (p, q, l) cs) : ∃ v, cs = [.int .i64 p, .int .i64 q, v] ∧ I64 p ∧ I64 q ∧ Row Kd.i64 ok w v l := by
  obtain ⟨c1, c2, rfl, ⟨rfl, h1⟩, c3, c4, rfl, ⟨rfl, h2⟩, v, rfl, hr⟩ := h
  exact ⟨v, rfl, h1, h2, hr⟩
theorem Kd.level_mk {p q : Int} {l : List Int} {v : Value} (h1 : I64 p) (h2 : I64 q) (hr : Row Kd.i64 ok w v l) : Kd.level.rel ok w (p, q, l) [.int .i64 p, .int .i64 q, v] :=
  ⟨[.int .i64 p], [.int .i64 q, v], rfl, ⟨rfl, h1⟩, [.int .i64 q], [v], rfl, ⟨rfl, h2⟩, v, rfl, hr⟩
theorem Kd.z_open {n : Bool} {l : List Nat} (h : Kd.z.rel ok w (n, l) cs) : ∃ v, cs = [.bool n, v] ∧ Row Kd.u32 ok w v l := by
  obtain ⟨c1, c2, rfl, ⟨rfl, _⟩, v, rfl, hr⟩ := h
  exact ⟨v, rfl, hr⟩
theorem Kd.z_mk {n : Bool} {l : List Nat} {v : Value} (hr : Row Kd.u32 ok w v l) : Kd.z.rel ok w (n, l) [.bool n, v] :=
  ⟨[.bool n], [v], rfl, ⟨rfl, trivial⟩, v, rfl, hr⟩
theorem Kd.q_open {n m : Bool} {l k : List Nat} (h : Kd.q.rel ok w ((n, l), (m, k)) cs) : ∃ u v, cs = [.bool n, u, .bool m, v] ∧ Row Kd.u32 ok w u l ∧ Row Kd.u32 ok w v k := by
  obtain ⟨c1, c2, rfl, h1, h2⟩ := h
  obtain ⟨u, rfl, hu⟩ := Kd.z_open h1
  obtain ⟨v, rfl, hv⟩ := Kd.z_open h2
  exact ⟨u, v, rfl, hu, hv⟩
theorem Kd.q_mk {n m : Bool} {l k : List Nat} {u v : Value} (hu : Row Kd.u32 ok w u l) (hv : Row Kd.u32 ok w v k) : Kd.q.rel ok w ((n, l), (m, k)) [.bool n, u, .bool m, v] :=
  ⟨[.bool n, u], [.bool m, v], rfl, Kd.z_mk hu, Kd.z_mk hv⟩
end

/-! ### Cells of a row that is read -/
section
variable {ok : Nat → Option Obj → Prop} {w : World} {b off : Nat}
theorem cells1 {α : Type} {K : Kd α} {l : List α} {enc : α → Value} {p : α → Prop} (hK : ∀ {ok : Nat → Option Obj → Prop} {w : World} {x : α} {cs : List Value}, K.rel ok w x cs → cs = [enc x] ∧ p x) (hs : K.sz = 1)
    (hj : ∀ j (h : j < l.length), ∃ cs, K.rel ok w l[j] cs ∧ ∀ i (hi : i < cs.length), w.cell? ⟨b, off + j * K.sz + i, none⟩ = some cs[i]) (j : Nat) (h : j < l.length) :
    w.cell? ⟨b, off + j, none⟩ = some (enc l[j]) ∧ p l[j] := by
  obtain ⟨cs, h1, h2⟩ := hj j h
  obtain ⟨rfl, hp⟩ := hK h1
  have := h2 0 (by simp)
  rw [hs] at this
  simp only [Nat.mul_one, Nat.add_zero, List.getElem_cons_zero] at this
  exact ⟨this, hp⟩
end

/-! ### Rows of the call's own -/
/-- No cell of the block may not be written. -/
def Thawed (o : Option Obj) : Prop := ∀ cs e fr, o = some (.cells cs e fr) → fr = (0, 0)
theorem thawed_cells (cs : Array Value) (e : TypeId) : Thawed (some (.cells cs e (0, 0))) := fun _ _ _ h => by cases h; rfl
/-- New since the heap had n blocks, and free to be written. -/
def New (n : Nat) (k : Nat) (o : Option Obj) : Prop := n ≤ k ∧ Thawed o
theorem New.mono {n m : Nat} (h : m ≤ n) : ∀ k o, New n k o → New m k o := fun _ _ hk => ⟨Nat.le_trans h hk.1, hk.2⟩
/-- A slice that the call made itself: its cells lie at the head of a block from base on; what its elements lead to lies in the blocks of ok, and its own is none of these. -/
def Own {α : Type} (K : Kd α) (e : TypeId) (base : Nat) (ok : Nat → Option Obj → Prop) (w : World) (v : Value) (l : List α) : Prop :=
  ∃ css : List (List Value), css.length = l.length ∧ (∀ j (h : j < l.length) (h' : j < css.length), K.rel ok w l[j] css[j]) ∧ w.ownsRow base e K.sz v l.length css.flatten ∧
    (∀ k o, ok k o → v.ownBlock ≠ some k) ∧ l.length ≤ 140737488355328

theorem flatten_get {sz : Nat} : ∀ (css : List (List Value)) (j i : Nat) (_ : ∀ c ∈ css, c.length = sz) (hj : j < css.length) (hi : i < css[j].length), css.flatten[j * sz + i]? = some css[j][i] := by
  intro css
  induction css with
  | nil => intro j i _ hj; simp at hj
  | cons c css ih =>
    intro j i hall hj hi
    have hc : c.length = sz := hall c (by simp)
    cases j with
    | zero =>
      simp only [List.getElem_cons_zero] at hi ⊢
      rw [List.flatten_cons, List.getElem?_append_left (by omega), Nat.zero_mul, Nat.zero_add, List.getElem?_eq_getElem hi]
    | succ j =>
      simp only [List.getElem_cons_succ] at hi ⊢
      rw [List.flatten_cons, List.getElem?_append_right (by rw [hc, Nat.succ_mul]; omega), hc, ← ih j i (fun c hc => hall c (by simp [hc])) (by simpa using hj) hi]
      congr 1
      rw [Nat.succ_mul]; omega
section
variable {α : Type} {K : Kd α} {e base : Nat} {ok ok' : Nat → Option Obj → Prop} {w w' : World} {v : Value} {l : List α}
theorem Own.nil (K : Kd α) (e base : Nat) (ok : Nat → Option Obj → Prop) (w : World) : Own K e base ok w (.slice none 0 0) [] :=
  ⟨[], rfl, fun j h => absurd h (by simp), World.ownsRow_nil _ _ _ _, fun k _ _ => by simp [Value.ownBlock], by simp⟩
theorem Own.row (h : Own K e base ok w v l) : Row K (fun k o => ok k o ∨ v.ownBlock = some k ∧ Thawed o) w v l := by
  obtain ⟨css, hl, hr, hown, hne, hm⟩ := h
  have hcell := fun {g : Nat} (hg : v.ownBlock = some g) => hown.cells hg
  rcases hown.2 with ⟨rfl, h0⟩ | ⟨g, cap, cur, rfl, hb, hg, hnc, hcm, hcs, htake⟩
  · obtain rfl : l = [] := List.eq_nil_of_length_eq_zero h0
    exact Row.nil 0 none (fun _ => rfl)
  · refine ⟨_, cap, rfl, ⟨hnc, fun h => by cases h⟩, hm, fun hp => ⟨g, 0, rfl, .inr ⟨rfl, by rw [hg]; exact thawed_cells _ _⟩, fun j h => ⟨css[j]'(by omega), K.mono (fun _ _ => Or.inl) (hr j h (by omega)), fun i hi => ?_⟩⟩⟩
    have h1 := hcell rfl (j * K.sz + i) _ (flatten_get css j i (fun c hc => by
      obtain ⟨n, hn, rfl⟩ := List.getElem_of_mem hc
      exact K.len (hr n (by omega) hn)) (by omega) hi)
    have hadd : (⟨g, 0, none⟩ : Addr).add (j * K.sz + i) = ⟨g, 0 + j * K.sz + i, none⟩ := by unfold Addr.add; split <;> simp_all
    rwa [hadd] at h1
theorem Own.kept (h : Own K e base ok w v l) {row : Option Nat} (hg : w.grownBy w' row) (hv : v.ownBlock = none ∨ v.ownBlock ≠ row) (ho : ∀ k o, ok k o → some k ≠ row) : Own K e base ok w' v l := by
  obtain ⟨css, hl, hr, hown, hne, hm⟩ := h
  exact ⟨css, hl, fun j h h' => K.mono (fun _ _ hk => hk.1) (K.keep (ok := fun k o => ok k o ∧ k < w.heap.size ∧ IsCells o) (fun k hk => hg.block k hk.2.1 (ho k _ hk.1)) (K.live (hr j h h'))), hown.kept hg hv, hne, hm⟩
theorem Own.below (h : Own K e base ok w v l) (hb : Below w.heap.size w w') : Own K e base ok w' v l :=
  h.kept (row := none) ⟨hb.os, hb.tape, hb.output, hb.size, fun k hk _ => hb.block k hk⟩ (by cases v.ownBlock <;> simp) (fun _ _ _ => by simp)
theorem Own.mono (h : Own K e base ok w v l) (ho : ∀ k o, ok k o → ok' k o) (hne : ∀ k o, ok' k o → v.ownBlock ≠ some k) : Own K e base ok' w v l := by
  obtain ⟨css, hl, hr, hown, _, hm⟩ := h
  exact ⟨css, hl, fun j h h' => K.mono ho (hr j h h'), hown, hne, hm⟩
theorem Own.form (h : Own K e base ok w v l) : ∃ A c, v = .slice A l.length c := by
  obtain ⟨css, hl, hr, hown, hne, hm⟩ := h
  rcases hown.2 with ⟨rfl, h0⟩ | ⟨g, cap, cur, rfl, _⟩
  · exact ⟨none, 0, by rw [h0]⟩
  · exact ⟨_, _, rfl⟩
theorem Own.base_le (h : Own K e base ok w v l) (k : Nat) (hk : v.ownBlock = some k) : base ≤ k ∧ k < w.heap.size := let ⟨_, _, _, hown, _⟩ := h; hown.lt k hk
end
theorem cell_below {W w1 : World} {a : Addr} {v : Value} (hb : Below W.heap.size W w1) (h : W.cell? a = some v) : w1.cell? a = some v := (hb.cell (World.block_lt_of_cell? W a h)).trans h
theorem bcell {W w1 : World} (hb : Below W.heap.size W w1) : (∀ b o, b < W.heap.size → w1.cell? ⟨b, o, none⟩ = W.cell? ⟨b, o, none⟩) ∧ (∀ b o, b < W.heap.size → w1.frozen? ⟨b, o, none⟩ = W.frozen? ⟨b, o, none⟩) :=
  ⟨fun b o h => hb.cell (p := ⟨b, o, none⟩) h, fun b o h => hb.frozen (p := ⟨b, o, none⟩) h⟩
theorem alloc_get (w : World) (o : Obj) (k : Nat) : (w.alloc o).heap[k]? = if k = w.heap.size then some o else w.heap[k]? := by
  show (w.heap.push o)[k]? = _
  rw [Array.getElem?_push]
theorem alloc_last {w : World} {o : Obj} {k : Nat} (h : k = w.heap.size) : (w.alloc o).heap[k]? = some o := by rw [alloc_get, if_pos h]
theorem alloc_elder {w : World} {o p : Obj} {k : Nat} (h : w.heap[k]? = some p) : (w.alloc o).heap[k]? = some p := by
  have hk := (Array.getElem?_eq_some_iff.1 h).1
  rw [alloc_get, if_neg (by omega)]
  exact h
theorem heap_below {W w1 : World} {k : Nat} {o : Obj} (hb : Below W.heap.size W w1) (h : W.heap[k]? = some o) : w1.heap[k]? = some o :=
  (hb.block k (Array.getElem?_eq_some_iff.1 h).1).trans h
theorem hcell {w : World} {b : Nat} {cs : Array Value} {e : TypeId} {fr : Nat × Nat} (h : w.heap[b]? = some (.cells cs e fr)) (i : Nat) {v : Value} (hi : cs[i]? = some v) : w.cell? ⟨b, i, none⟩ = some v := by
  simp [World.cell?, h, hi]
theorem hfree {w : World} {b : Nat} {cs : Array Value} {e : TypeId} (h : w.heap[b]? = some (.cells cs e (0, 0))) (i : Nat) : w.frozen? ⟨b, i, none⟩ = false := by
  simp [World.frozen?, h]
/-- What is appended: elements that lie somewhere. -/
def Elems {α : Type} (K : Kd α) (ok : Nat → Option Obj → Prop) (w : World) (v : Value) (l : List α) : Prop :=
  ∃ (ad : Addr) (c : Nat) (css : List (List Value)), v = .slice (some ad) l.length c ∧ css.length = l.length ∧ (∀ j (h : j < l.length) (h' : j < css.length), K.rel ok w l[j] css[j]) ∧
    ∀ j u, css.flatten[j]? = some u → w.cell? (ad.add j) = some u
theorem flatten_len {sz : Nat} : ∀ (css : List (List Value)) (_ : ∀ c ∈ css, c.length = sz), css.flatten.length = css.length * sz := by
  intro css
  induction css with
  | nil => intro _; simp
  | cons c css ih => intro h; rw [List.flatten_cons, List.length_append, h c (by simp), ih (fun c hc => h c (by simp [hc])), List.length_cons, Nat.succ_mul]; omega
theorem addr_add (b off j : Nat) : (⟨b, off, none⟩ : Addr).add j = ⟨b, off + j, none⟩ := by unfold Addr.add; split <;> simp_all
theorem Elems.one {α : Type} {K : Kd α} {ok : Nat → Option Obj → Prop} {w : World} {b c : Nat} {cs : Array Value} {e : TypeId} {fr : Nat × Nat} {x : α} (hr : K.rel ok w x cs.toList) (h : w.heap[b]? = some (.cells cs e fr)) : Elems K ok w (.slice (some ⟨b, 0, none⟩) 1 c) [x] := by
  refine ⟨_, c, [cs.toList], rfl, rfl, fun j hj hj' => ?_, fun j u hu => ?_⟩
  · have : j = 0 := by simpa using hj
    subst this
    exact hr
  · rw [addr_add, Nat.zero_add]
    refine hcell h j ?_
    simpa using hu
theorem Row.elems {α : Type} {K : Kd α} {ok : Nat → Option Obj → Prop} {w : World} {ad : Addr} {n c : Nat} {l : List α} (h : Row K ok w (.slice (some ad) n c) l) : Elems K ok w (.slice (some ad) n c) l := by
  obtain ⟨A, c', hv, hc, hm, hr⟩ := h
  simp only [Value.slice.injEq] at hv
  obtain ⟨rfl, rfl, rfl⟩ := hv
  cases hl : l with
  | nil => exact ⟨ad, c, [], rfl, rfl, fun j hj => absurd hj (by simp), fun j u hu => by simp at hu⟩
  | cons x r =>
    rw [← hl]
    obtain ⟨b, off, hA, hb, hj⟩ := hr (by rw [hl]; simp)
    obtain rfl := Option.some.inj hA
    let f : Fin l.length → List Value := fun j => Classical.choose (hj j.1 j.2)
    have hf : ∀ j : Fin l.length, K.rel ok w l[j.1] (f j) ∧ ∀ i (hi : i < (f j).length), w.cell? ⟨b, off + j.1 * K.sz + i, none⟩ = some (f j)[i] := fun j => Classical.choose_spec (hj j.1 j.2)
    refine ⟨_, c, List.ofFn f, rfl, by simp, fun j h h' => by rw [List.getElem_ofFn]; exact (hf ⟨j, h⟩).1, fun j u hu => ?_⟩
    have hlen : ∀ cs ∈ List.ofFn f, cs.length = K.sz := by
      intro cs hcs
      obtain ⟨i, rfl⟩ := (List.mem_ofFn (f := f)).1 hcs
      exact K.len (hf i).1
    have hj2 : j < l.length * K.sz := by
      have := (List.getElem?_eq_some_iff.1 hu).1
      rw [flatten_len _ hlen] at this
      simpa using this
    have hq : j / K.sz < l.length := (Nat.div_lt_iff_lt_mul K.pos).2 hj2
    have hi : j % K.sz < (f ⟨j / K.sz, hq⟩).length := by rw [K.len (hf _).1]; exact Nat.mod_lt _ K.pos
    have h1 := flatten_get (List.ofFn f) (j / K.sz) (j % K.sz) hlen (by simpa using hq) (by rw [List.getElem_ofFn]; exact hi)
    have hjj : j / K.sz * K.sz + j % K.sz = j := Nat.div_add_mod' j K.sz
    rw [hjj, hu] at h1
    have h2 := (hf ⟨j / K.sz, hq⟩).2 (j % K.sz) hi
    rw [addr_add]
    simp only [Nat.add_assoc, hjj] at h2
    rw [h2]
    have h3 := Option.some.inj h1
    rw [h3]
    simp
theorem Own.made0 {α : Type} (K : Kd α) (e base : Nat) (w : World) (hb : base ≤ w.heap.size) : Own K e base (fun _ _ => False) (w.alloc (.cells #[] e)) (.slice (some ⟨w.heap.size, 0, none⟩) 0 0) [] :=
  ⟨[], rfl, fun j h => absurd h (by simp), World.ownsRow_made _ #[] 0 hb (by simp [maxLen]) (by simp), fun _ _ h => h.elim, by simp⟩
section
variable {P : Program}
/-- append(s, x..): s nil or the call's own, x's elements anywhere. -/
theorem wp_append {α : Type} (K : Kd α) {ops : Array Oper} {rest : List Oper} {o : Oper} {a : Act} {w : World} {Q : Exit → Act → World → Prop} (hgd : o.guard = none) (s x : Operand) (t : TypeId)
    (ho : o.op = .call { callee := .builtin .append, args := #[s, x], argTypes := #[t, t] })
    (e : TypeId) (z : Value) (bytes : Nat) (ht : P.underlying t = some (.slice e)) (hi : (P.info? e).map (fun i => (i.zero, i.size, i.bytes)) = some (some z, K.sz, bytes)) (hz : z.cells.size = K.sz) (hby : 1 ≤ bytes)
    (base : Nat) (ok : Nat → Option Obj → Prop) (v : Value) (l : List α) (hs : a.eval s = v) (hown : Own K e base ok w v l)
    (vx : Value) (l2 : List α) (hx : a.eval x = vx) (hel : Elems K ok w vx l2) (hbytes : (l.length + l2.length) * bytes ≤ 140737488355328) (hbase : base ≤ w.heap.size)
    (h : ∀ v' w', Own K e base (fun k o => ok k o ∧ k < w.heap.size) w' v' (l ++ l2) → w.grownBy w' v.ownBlock → (v'.ownBlock = v.ownBlock ∨ v'.ownBlock = some w.heap.size) → wpList P ops Q rest (a.put o.dst v') w') :
    wpList P ops Q (o :: rest) a w := by
  obtain ⟨css, hl, hr, hrow, hne, hm⟩ := hown
  obtain ⟨ad, c, css2, rfl, hl2, hr2, hcell⟩ := hel
  obtain ⟨i0, hi0, hz0, hz1, hz2⟩ := info_parts hi
  have hlen2 : ∀ cs ∈ css2, cs.length = K.sz := by
    intro cs hcs
    obtain ⟨n, hn, rfl⟩ := List.getElem_of_mem hcs
    exact K.len (hr2 n (by omega) hn)
  have hsmall : l.length + l2.length ≤ 140737488355328 := Nat.le_trans (Nat.le_mul_of_pos_right _ hby) hbytes
  refine wpList_append_own_at w hgd s x t ho base e i0 z K.sz bytes ht hi0 hz0 hz1 hz2 hz K.pos v l.length css.flatten hs hrow ad l2.length c css2.flatten hx (by rw [flatten_len _ hlen2, hl2]) hcell
    (fun u hu => ?_) (by simp only [maxLen]; omega) hbytes hbase ?_
  · obtain ⟨cs, hcs, hu⟩ := List.mem_flatten.1 hu
    obtain ⟨n, hn, rfl⟩ := List.getElem_of_mem hcs
    exact K.one (hr2 n (by omega) hn) u hu
  · intro v' w' hown' hg hnil hat
    have hkeep : ∀ {y : α} {cs : List Value}, K.rel ok w y cs → K.rel (fun k o => ok k o ∧ k < w.heap.size) w' y cs := by
      intro y cs hy
      exact K.mono (fun _ _ hk => ⟨hk.1, hk.2.1⟩) (K.keep (ok := fun k o => ok k o ∧ k < w.heap.size ∧ IsCells o) (w' := w') (fun k hk => hg.block k hk.2.1 (fun he => hne k _ hk.1 he.symm)) (K.live hy))
    refine h v' w' ⟨css ++ css2, by simp [hl, hl2], fun j hj hj' => ?_, by rw [List.length_append, List.flatten_append]; exact hown', fun k o hk => ?_, by rw [List.length_append]; exact hsmall⟩ hg hat
    · by_cases hjl : j < l.length
      · rw [List.getElem_append_left hjl, List.getElem_append_left (by omega)]
        exact hkeep (hr j hjl (by omega))
      · have e1 : (l ++ l2)[j] = l2[j - l.length]'(by simp at hj; omega) := List.getElem_append_right (by omega)
        have e2 : (css ++ css2)[j] = css2[j - l.length]'(by simp at hj; omega) := by rw [List.getElem_append_right (by omega)]; simp [hl]
        rw [e1, e2]
        exact hkeep (hr2 _ _ _)
    · rcases hat with hat | hat
      · rw [hat]; exact hne k o hk.1
      · rw [hat]; intro he; injection he with he; omega
end
theorem Own.live {α : Type} {K : Kd α} {e base : Nat} {ok : Nat → Option Obj → Prop} {w : World} {v : Value} {l : List α} (h : Own K e base ok w v l) : Own K e base (fun k o => ok k o ∧ k < w.heap.size) w v l := by
  obtain ⟨css, hl, hr, hrow, hne, hm⟩ := h
  exact ⟨css, hl, fun j a b => K.mono (fun _ _ h => ⟨h.1, h.2.1⟩) (K.live (hr j a b)), hrow, fun k o h => hne k o h.1, hm⟩
section
variable {P : Program}
/-- append(s, x...): s nil or the call's own, x any row, nil too. -/
theorem wp_append_row {α : Type} (K : Kd α) {ops : Array Oper} {rest : List Oper} {o : Oper} {a : Act} {w : World} {Q : Exit → Act → World → Prop} (hgd : o.guard = none) (s x : Operand) (t : TypeId)
    (ho : o.op = .call { callee := .builtin .append, args := #[s, x], argTypes := #[t, t] })
    (e : TypeId) (z : Value) (bytes : Nat) (ht : P.underlying t = some (.slice e)) (hi : (P.info? e).map (fun i => (i.zero, i.size, i.bytes)) = some (some z, K.sz, bytes)) (hz : z.cells.size = K.sz) (hby : 1 ≤ bytes)
    (base : Nat) (ok : Nat → Option Obj → Prop) (v : Value) (l : List α) (hs : a.eval s = v) (hown : Own K e base ok w v l)
    (vx : Value) (l2 : List α) (hx : a.eval x = vx) (ok2 : Nat → Option Obj → Prop) (hrow : Row K ok2 w vx l2) (hok2 : ∀ x cs, K.rel ok2 w x cs → K.rel ok w x cs) (hbytes : (l.length + l2.length) * bytes ≤ 140737488355328) (hbase : base ≤ w.heap.size)
    (h : ∀ v' w', Own K e base (fun k o => ok k o ∧ k < w.heap.size) w' v' (l ++ l2) → w.grownBy w' v.ownBlock → (v'.ownBlock = v.ownBlock ∨ v'.ownBlock = some w.heap.size) → wpList P ops Q rest (a.put o.dst v') w') :
    wpList P ops Q (o :: rest) a w := by
  obtain ⟨A, c, hv, ⟨hc, hn⟩, hm, hr⟩ := hrow
  subst hv
  cases A with
  | some ad => 
    obtain ⟨ad', c', css, q1, q2, q3, q4⟩ := Row.elems (K := K) (ok := ok2) (w := w) (l := l2) ⟨some ad, c, rfl, ⟨hc, hn⟩, hm, hr⟩
    exact wp_append K hgd s x t ho e z bytes ht hi hz hby base ok v l hs hown _ l2 hx ⟨ad', c', css, q1, q2, fun j a b => hok2 _ _ (q3 j a b), q4⟩ hbytes hbase h
  | none =>
    obtain rfl := hn rfl
    obtain rfl : l2 = [] := List.eq_nil_of_length_eq_zero (by omega)
    obtain ⟨i0, hi0, hz0, hz1, hz2⟩ := info_parts hi
    have h1 := hown.live
    obtain ⟨css, hl, hr', hrow', hne, hm'⟩ := hown
    refine wpList_append_own_none hgd s x t ho base e i0 K.sz ht hi0 v l.length css.flatten hs hrow' hx ?_
    exact h v w (by rw [List.append_nil]; exact h1) ⟨rfl, rfl, rfl, Nat.le_refl _, fun _ _ _ => rfl⟩ (.inl rfl)
end
/-- A slice that a literal has built. -/
theorem Own.built {α : Type} (K : Kd α) (e base : Nat) (w : World) (cs : Array Value) (l : List α) (css : List (List Value)) (hcs : cs.toList = css.flatten) (hl : css.length = l.length) (hb : base ≤ w.heap.size) (hm : l.length ≤ 140737488355328)
    (hr : ∀ j (h : j < l.length) (h' : j < css.length), K.rel (fun _ _ => False) (w.alloc (.cells cs e)) l[j] css[j]) :
    Own K e base (fun _ _ => False) (w.alloc (.cells cs e)) (.slice (some ⟨w.heap.size, 0, none⟩) l.length l.length) l := by
  have hlen : css.flatten.length = l.length * K.sz := by
    rw [flatten_len css (fun c hc => by
      obtain ⟨n, hn, rfl⟩ := List.getElem_of_mem hc
      exact K.len (hr n (by omega) hn)), hl]
  refine ⟨css, hl, hr, ⟨hlen, .inr ⟨w.heap.size, l.length, cs, rfl, hb, alloc_last rfl, Nat.le_refl _, by simp only [maxLen]; omega, by rw [← Array.length_toList, hcs, hlen], ?_⟩⟩, fun _ _ h => h.elim, hm⟩
  rw [hcs, ← hlen, List.take_length]
/-- A block of new cells, read as a row. -/
theorem row_of_block {α : Type} {K : Kd α} {enc : α → Value} {w : World} {b n : Nat} {e : TypeId} {c : Nat} (cs : Array Value) (l : List α) (hs : K.sz = 1) (hK : ∀ ok x, x ∈ l → K.rel ok w x [enc x])
    (h : w.heap[b]? = some (.cells cs e (0, 0))) (hcs : ∀ j (hj : j < l.length), cs[j]? = some (enc l[j])) (hb : n ≤ b) (hc : l.length ≤ c) (hm : l.length ≤ 140737488355328) :
    Row K (New n) w (.slice (some ⟨b, 0, none⟩) l.length c) l := by
  refine ⟨_, c, rfl, ⟨hc, fun h => by cases h⟩, hm, fun _ => ⟨b, 0, rfl, ⟨hb, by rw [h]; exact thawed_cells _ _⟩, fun j hj => ⟨[enc l[j]], hK _ _ (List.getElem_mem hj), fun i hi => ?_⟩⟩⟩
  have hi0 : i = 0 := by simpa using hi
  subst hi0
  rw [hs]
  simp only [World.cell?, h, Nat.zero_add, Nat.mul_one, Nat.add_zero, List.getElem_cons_zero]
  simpa using hcs j hj
theorem below_alloc (w : World) (o : Obj) : Below w.heap.size w (w.alloc o) := (Below.refl _ _).alloc (Nat.le_refl _) _
theorem below_grown {w W W2 : World} {row : Option Nat} (h : Below w.heap.size w W) (hg : W.grownBy W2 row) (hr : ∀ k, row = some k → w.heap.size ≤ k) : Below w.heap.size w W2 := h.grown hg h.size hr
theorem set_same {w : World} {b i : Nat} {cs : Array Value} {e : TypeId} {fr : Nat × Nat} {v : Value} (h : w.heap[b]? = some (.cells cs e fr)) : (w.setCell ⟨b, i, none⟩ v).heap[b]? = some (.cells (cs.setIfInBounds i v) e fr) := by
  simp [World.setCell, Array.getElem?_modify, h]
theorem set_far {w : World} {a : Addr} {v : Value} {k : Nat} {o : Option Obj} (h : w.heap[k]? = o) (hne : k ≠ a.block) : (w.setCell a v).heap[k]? = o := by
  rw [Below.heap_setCell w a v k hne]; exact h
theorem grown_set (w : World) (a : Addr) (v : Value) : w.grownBy (w.setCell a v) (some a.block) :=
  ⟨rfl, rfl, rfl, by simp [World.setCell], fun k _ hne => Below.heap_setCell w a v k (fun e => hne (by rw [e]))⟩
theorem below_alloc2 (w : World) (o p : Obj) : Below w.heap.size w ((w.alloc o).alloc p) := (below_alloc w o).trans ((below_alloc (w.alloc o) p).mono (by simp))
theorem below_next {w w1 w2 : World} (h : Below w.heap.size w w1) (k : Below w1.heap.size w1 w2) : Below w.heap.size w w2 := h.trans (k.mono h.size)
section
variable {α : Type} {K : Kd α} {ok : Nat → Option Obj → Prop} {w w' w0 : World} {v u : Value} {l : List α} {a : Addr} {m n : Nat}
theorem Row.set (h : Row K ok w v l) (hne : ∀ k o, ok k o → k ≠ a.block) : Row K ok (w.setCell a u) v l :=
  h.keep (fun k hk => Below.heap_setCell w a u k (hne k _ hk))
theorem Row.new (h : Row K (New m) w v l) (hn : n ≤ m) : Row K (New n) w v l := h.mono (New.mono hn)
theorem Row.newset (h : Row K (New m) w v l) (ha : a.block < m) : Row K (New m) (w.setCell a u) v l := h.set (fun k _ hk e => by have := hk.1; omega)
/-- Behind the two stores of a struct of two cells into a block of the call's own. -/
theorem two_stores {n0 : Nat} {x y : Value} (hB : Below w0.heap.size w0 w) (hn : w0.heap.size ≤ n0) : Below w0.heap.size w0 ((w.setCell ⟨n0, 0, none⟩ x).setCell ⟨n0, 1, none⟩ y) :=
  (hB.setCell (p := ⟨n0, 0, none⟩) hn x).setCell (p := ⟨n0, 1, none⟩) hn y
theorem four_stores {n0 : Nat} {x y z t : Value} (hB : Below w0.heap.size w0 w) (hn : w0.heap.size ≤ n0) : Below w0.heap.size w0 ((((w.setCell ⟨n0, 0, none⟩ x).setCell ⟨n0, 1, none⟩ y).setCell ⟨n0, 2, none⟩ z).setCell ⟨n0, 3, none⟩ t) :=
  (two_stores hB hn).setCell (p := ⟨n0, 2, none⟩) hn z |>.setCell (p := ⟨n0, 3, none⟩) hn t
theorem Row.two {n0 : Nat} {x y : Value} (h : Row K (New m) w v l) (hn : n0 < m) : Row K (New m) ((w.setCell ⟨n0, 0, none⟩ x).setCell ⟨n0, 1, none⟩ y) v l := (h.newset hn).newset hn
theorem Row.four {n0 : Nat} {x y z t : Value} (h : Row K (New m) w v l) (hn : n0 < m) : Row K (New m) ((((w.setCell ⟨n0, 0, none⟩ x).setCell ⟨n0, 1, none⟩ y).setCell ⟨n0, 2, none⟩ z).setCell ⟨n0, 3, none⟩ t) v l := ((h.two hn).newset hn).newset hn
end
/-- What lies behind a place is a row too. -/
theorem Row.drop {α : Type} {K : Kd α} {ok : Nat → Option Obj → Prop} {w : World} {b off n c : Nat} {l : List α} (h : Row K ok w (.slice (some ⟨b, off, none⟩) n c) l) (k : Nat) (hk : k ≤ n) : Row K ok w (.slice (some ⟨b, off + k * K.sz, none⟩) (n - k) (c - k)) (l.drop k) := by
  obtain ⟨A', c', hv, hc, hm, hr⟩ := h
  simp only [Value.slice.injEq] at hv
  obtain ⟨rfl, rfl, rfl⟩ := hv
  refine ⟨_, c - k, by rw [List.length_drop], ⟨by rw [List.length_drop]; omega, fun h => by cases h⟩, by rw [List.length_drop]; omega, fun hp => ?_⟩
  rw [List.length_drop] at hp
  obtain ⟨b', off', hA, hb, hj⟩ := hr (by omega)
  simp only [Option.some.injEq, Addr.mk.injEq] at hA
  obtain ⟨rfl, rfl, _⟩ := hA
  refine ⟨b, off + k * K.sz, rfl, hb, fun j hjl => ?_⟩
  rw [List.length_drop] at hjl
  obtain ⟨cs, h3, h4⟩ := hj (k + j) (by omega)
  refine ⟨cs, by rw [List.getElem_drop]; exact h3, fun i hi => ?_⟩
  rw [← h4 i hi, Nat.add_mul]
  congr 2
  omega
/-- A turn of a block that holds no cells. -/
theorem Row.keepcells {α : Type} {K : Kd α} {ok : Nat → Option Obj → Prop} {w w' : World} {v : Value} {l : List α} (h : Row K ok w v l) (hk : ∀ k : Nat, IsCells w.heap[k]? → w'.heap[k]? = w.heap[k]?) : Row K ok w' v l :=
  (h.live.keep (w' := w') (fun k hk' => hk k hk'.2.2)).mono (fun _ _ hk => hk.1)
/-! ### The boxes that a function begins with -/
theorem one_box (w : World) (o : Obj) : ∃ W, w.alloc o = W ∧ W.heap[w.heap.size]? = some o ∧ Below w.heap.size w W ∧ W.heap.size = w.heap.size + 1 :=
  ⟨_, rfl, alloc_last rfl, below_alloc _ _, by simp⟩
theorem two_boxes (w : World) (o p : Obj) : ∃ W, (w.alloc o).alloc p = W ∧ W.heap[w.heap.size]? = some o ∧ W.heap[w.heap.size + 1]? = some p ∧ Below w.heap.size w W ∧ W.heap.size = w.heap.size + 2 :=
  ⟨_, rfl, alloc_elder (alloc_last rfl), alloc_last (by simp), below_alloc2 _ _ _, by simp⟩
theorem three_boxes (w : World) (o p q : Obj) : ∃ W, ((w.alloc o).alloc p).alloc q = W ∧ W.heap[w.heap.size]? = some o ∧ W.heap[w.heap.size + 1]? = some p ∧ W.heap[w.heap.size + 2]? = some q ∧ Below w.heap.size w W ∧ W.heap.size = w.heap.size + 3 :=
  ⟨_, rfl, alloc_elder (alloc_elder (alloc_last rfl)), alloc_elder (alloc_last (by simp)), alloc_last (by simp), below_next (below_alloc2 _ _ _) (below_alloc _ _), by simp⟩
theorem Row.drew {α : Type} {K : Kd α} {ok : Nat → Option Obj → Prop} {w : World} {v : Value} {l : List α} (h : Row K ok w v l) : Row K ok w.drew v l := h.keep (fun _ _ => rfl)
theorem below_drew {B : Nat} {w W : World} (h : Below B w W) : Below B w W.drew := h.drew
theorem heap_drew {w : World} {k : Nat} {o : Option Obj} (h : w.heap[k]? = o) : w.drew.heap[k]? = o := h
#print axioms Own.row
end Go.Proofs.YtlaemhigmgmgjaaGreat
/- The plain arithmetic of magnitudes: words of 32 bits, the least significant one first. No program in sight. -/
namespace Go.Proofs.YtlaemhigmgmgjaaGreat
set_option linter.unusedVariables false
set_option linter.unusedSimpArgs false

/-- The number that words stand for. -/
def nv : List Nat → Nat
  | [] => 0
  | x :: l => x + 4294967296 * nv l
/-- All words are words. -/
def WF (l : List Nat) : Prop := ∀ x ∈ l, x < 4294967296
/-- The words without zeros at the end. -/
def tr (l : List Nat) : List Nat := (l.reverse.dropWhile (· == 0)).reverse

theorem nv_append (a b : List Nat) : nv (a ++ b) = nv a + 4294967296 ^ a.length * nv b := by
  induction a with
  | nil => simp [nv]
  | cons x a ih => simp only [List.cons_append, nv, ih, List.length_cons, Nat.pow_succ]; rw [Nat.mul_add, Nat.mul_comm (4294967296 ^ a.length) 4294967296, Nat.mul_assoc]; omega
theorem tr_snoc_zero (l : List Nat) : tr (l ++ [0]) = tr l := by simp [tr]
theorem tr_snoc (l : List Nat) (x : Nat) (h : x ≠ 0) : tr (l ++ [x]) = l ++ [x] := by simp [tr, h]
theorem tr_nil : tr [] = [] := rfl
theorem snoc_ind {p : List Nat → Prop} (h0 : p []) (h1 : ∀ l x, p l → p (l ++ [x])) : ∀ l, p l := by
  intro l
  have : ∀ r : List Nat, p r.reverse := by
    intro r
    induction r with
    | nil => exact h0
    | cons x r ih => rw [List.reverse_cons]; exact h1 _ _ ih
  simpa using this l.reverse
theorem tr_spec (l : List Nat) : ∃ n, l = tr l ++ List.replicate n 0 := by
  induction l using snoc_ind with
  | h0 => exact ⟨0, rfl⟩
  | h1 l x ih =>
    by_cases h : x = 0
    · subst h
      obtain ⟨n, hn⟩ := ih
      refine ⟨n + 1, ?_⟩
      rw [tr_snoc_zero, List.replicate_succ', ← List.append_assoc, ← hn]
    · exact ⟨0, by rw [tr_snoc _ _ h]; simp⟩
theorem nv_zeros (n : Nat) : nv (List.replicate n 0) = 0 := by
  induction n with
  | zero => rfl
  | succ n ih => rw [List.replicate_succ, nv, ih]
theorem nv_tr (l : List Nat) : nv (tr l) = nv l := by
  obtain ⟨n, hn⟩ := tr_spec l
  conv => rhs; rw [hn]
  rw [nv_append, nv_zeros]; simp
theorem tr_length (l : List Nat) : (tr l).length ≤ l.length := by
  obtain ⟨n, hn⟩ := tr_spec l
  conv => rhs; rw [hn]
  simp
theorem tr_take (l : List Nat) : tr l = l.take (tr l).length := by
  obtain ⟨n, hn⟩ := tr_spec l
  have : ∀ (a b l : List Nat), l = a ++ b → a = l.take a.length := fun a b l h => by rw [h, List.take_left]
  exact this _ _ _ hn
theorem WF.tr {l : List Nat} (h : WF l) : WF (tr l) := fun x hx => h x (by rw [tr_take] at hx; exact List.mem_of_mem_take hx)
/-- Nothing to trim. -/
def Trimmed (l : List Nat) : Prop := tr l = l
theorem tr_tr (l : List Nat) : Trimmed (tr l) := by
  induction l using snoc_ind with
  | h0 => rfl
  | h1 l x ih =>
    by_cases h : x = 0
    · subst h; rw [tr_snoc_zero]; exact ih
    · rw [Trimmed, tr_snoc _ _ h, tr_snoc _ _ h]
theorem trimmed_last {l : List Nat} (h : Trimmed l) (hl : l ≠ []) : l.getLast hl ≠ 0 := by
  intro e
  have hd := List.dropLast_concat_getLast hl
  rw [e] at hd
  rw [Trimmed, ← hd, tr_snoc_zero] at h
  have h1 := tr_length l.dropLast
  rw [h] at h1
  simp at h1
  omega
theorem nv_lt {l : List Nat} (h : WF l) : nv l < 4294967296 ^ l.length := by
  induction l with
  | nil => simp [nv]
  | cons x l ih =>
    have h1 := h x (by simp)
    have h2 := ih (fun y hy => h y (by simp [hy]))
    rw [nv, List.length_cons, Nat.pow_succ]
    have : 4294967296 * (nv l + 1) ≤ 4294967296 * 4294967296 ^ l.length := Nat.mul_le_mul_left _ h2
    rw [Nat.mul_comm (4294967296 ^ l.length)]
    omega
/-- Words without zeros at the end are told by their number. -/
theorem nv_inj {a b : List Nat} (ha : WF a) (hb : WF b) (ta : Trimmed a) (tb : Trimmed b) (h : nv a = nv b) : a = b := by
  induction a generalizing b with
  | nil =>
    cases b with
    | nil => rfl
    | cons y b =>
      exfalso
      have hz : ∀ (m : List Nat), nv m = 0 → tr m = [] := by
        intro m
        induction m using snoc_ind with
        | h0 => intro _; rfl
        | h1 m x ih =>
          intro hm
          rw [nv_append] at hm
          have h0 : nv m = 0 := by omega
          have h1 : 4294967296 ^ m.length * nv [x] = 0 := by omega
          have h2 : nv [x] = 0 := by
            rcases Nat.mul_eq_zero.1 h1 with h3 | h3
            · exact absurd h3 (by have := Nat.pow_pos (n := m.length) (show 0 < 4294967296 by decide); omega)
            · exact h3
          have h4 : x = 0 := by simpa [nv] using h2
          rw [h4, tr_snoc_zero]
          exact ih h0
      have := hz (y :: b) h.symm
      rw [tb] at this
      cases this
  | cons x a ih =>
    cases b with
    | nil =>
      exfalso
      have hz : ∀ (m : List Nat), nv m = 0 → tr m = [] := by
        intro m
        induction m using snoc_ind with
        | h0 => intro _; rfl
        | h1 m x ih =>
          intro hm
          rw [nv_append] at hm
          have h0 : nv m = 0 := by omega
          have h1 : 4294967296 ^ m.length * nv [x] = 0 := by omega
          have h2 : nv [x] = 0 := by
            rcases Nat.mul_eq_zero.1 h1 with h3 | h3
            · exact absurd h3 (by have := Nat.pow_pos (n := m.length) (show 0 < 4294967296 by decide); omega)
            · exact h3
          have h4 : x = 0 := by simpa [nv] using h2
          rw [h4, tr_snoc_zero]
          exact ih h0
      have := hz (x :: a) h
      rw [ta] at this
      cases this
    | cons y b =>
      have hx := ha x (by simp)
      have hy := hb y (by simp)
      simp only [nv] at h
      have e1 : x = y := by omega
      have e2 : nv a = nv b := by omega
      have tail : ∀ (z : Nat) (m : List Nat), Trimmed (z :: m) → Trimmed m := by
        intro z m hm
        obtain ⟨n, hn⟩ := tr_spec m
        have hh : tr (z :: m) = tr (z :: tr m) := by
          have : ∀ n : Nat, tr (z :: tr m ++ List.replicate n 0) = tr (z :: tr m) := by
            intro n
            induction n with
            | zero => simp
            | succ n ih => rw [List.replicate_succ', ← List.append_assoc, tr_snoc_zero, ih]
          conv => lhs; rw [hn]
          exact this n
        have h1 := tr_length (z :: tr m)
        rw [← hh, hm] at h1
        have h2 : n = 0 := by
          have := congrArg List.length hn
          simp at this h1
          omega
        rw [h2] at hn
        rw [Trimmed]
        simpa using hn.symm
      rw [e1, ih (fun z hz => ha z (by simp [hz])) (fun z hz => hb z (by simp [hz])) (tail x a ta) (tail y b tb) e2]
/-- The words of a number, without zeros at the end. -/
def dig (n : Nat) : List Nat := if h : n = 0 then [] else n % 4294967296 :: dig (n / 4294967296)
decreasing_by exact Nat.div_lt_self (Nat.pos_of_ne_zero h) (by decide)
theorem dig_zero : dig 0 = [] := by rw [dig]; simp
theorem dig_pos {n : Nat} (h : n ≠ 0) : dig n = n % 4294967296 :: dig (n / 4294967296) := by rw [dig, dif_neg h]
theorem nv_dig (n : Nat) : nv (dig n) = n := by
  induction n using Nat.strongRecOn with
  | _ n ih =>
    by_cases h : n = 0
    · rw [h, dig_zero]; rfl
    · rw [dig_pos h, nv, ih _ (Nat.div_lt_self (by omega) (by decide))]
      omega
theorem wf_dig (n : Nat) : WF (dig n) := by
  induction n using Nat.strongRecOn with
  | _ n ih =>
    by_cases h : n = 0
    · rw [h, dig_zero]; intro x hx; cases hx
    · rw [dig_pos h]
      intro x hx
      rcases List.mem_cons.1 hx with rfl | hx
      · exact Nat.mod_lt _ (by decide)
      · exact ih _ (Nat.div_lt_self (by omega) (by decide)) x hx
theorem trimmed_cons {x : Nat} {l : List Nat} (h : Trimmed l) (hl : l ≠ []) : Trimmed (x :: l) := by
  obtain ⟨m, y, rfl⟩ : ∃ m y, l = m ++ [y] := ⟨l.dropLast, l.getLast hl, (List.dropLast_concat_getLast hl).symm⟩
  have hy : y ≠ 0 := by have := trimmed_last h (by simp); simpa using this
  rw [Trimmed, ← List.cons_append, tr_snoc _ _ hy]
theorem trimmed_dig (n : Nat) : Trimmed (dig n) := by
  induction n using Nat.strongRecOn with
  | _ n ih =>
    by_cases h : n = 0
    · rw [h, dig_zero]; rfl
    · rw [dig_pos h]
      by_cases h2 : n / 4294967296 = 0
      · rw [h2, dig_zero]
        have : n % 4294967296 ≠ 0 := by omega
        exact tr_snoc [] _ this
      · exact trimmed_cons (ih _ (Nat.div_lt_self (by omega) (by decide))) (by rw [dig_pos h2]; simp)
/-- Trimmed words are the words of their number. -/
theorem tr_eq_dig {l : List Nat} (h : WF l) : tr l = dig (nv l) := nv_inj h.tr (wf_dig _) (tr_tr l) (trimmed_dig _) (by rw [nv_tr, nv_dig])
theorem dig_length_le {n k : Nat} (h : n < 4294967296 ^ k) : (dig n).length ≤ k := by
  induction k generalizing n with
  | zero =>
    have : n = 0 := by simpa using h
    rw [this, dig_zero]; simp
  | succ k ih =>
    by_cases h0 : n = 0
    · rw [h0, dig_zero]; simp
    · rw [dig_pos h0, List.length_cons]
      have : n / 4294967296 < 4294967296 ^ k := by
        rw [Nat.div_lt_iff_lt_mul (by decide)]
        rwa [Nat.pow_succ] at h
      have := ih this
      omega
#print axioms nv_inj
#print axioms tr_eq_dig
end Go.Proofs.YtlaemhigmgmgjaaGreat
/- whole: trim, made, Sign, FromInt64: what they return. No condition. -/
namespace Go.Proofs.YtlaemhigmgmgjaaGreat
set_option linter.unusedVariables false
set_option linter.unusedSimpArgs false
open Go.RowKit

theorem u32_cell {ok : Nat → Option Obj → Prop} {w : World} {b off : Nat} {l : List Nat}
    (hj : ∀ j (h : j < l.length), ∃ cs, Kd.u32.rel ok w l[j] cs ∧ ∀ i (hi : i < cs.length), w.cell? ⟨b, off + j * Kd.u32.sz + i, none⟩ = some cs[i]) (j : Nat) (h : j < l.length) :
    ∃ x : Nat, x = l[j] ∧ x < 4294967296 ∧ w.cell? ⟨b, off + j, none⟩ = some (.int .u32 (x : Int)) := by
  have := cells1 (K := Kd.u32) (enc := fun x : Nat => Value.int .u32 (x : Int)) (p := fun x => x < 4294967296) (fun h => h) rfl hj j h
  exact ⟨_, rfl, this.2, this.1⟩
theorem Row.wf {ok : Nat → Option Obj → Prop} {w : World} {v : Value} {l : List Nat} (h : Row Kd.u32 ok w v l) : WF l := by
  intro x hx
  obtain ⟨j, hj, rfl⟩ := List.getElem_of_mem hx
  obtain ⟨A, c, hv, hc, hm, hr⟩ := h
  obtain ⟨b, off, hA, hb, hr⟩ := hr (by omega)
  obtain ⟨y, rfl, hy, _⟩ := u32_cell hr j hj
  exact hy
/-- What lies ahead of a place is a row too. -/
theorem Row.take {α : Type} {K : Kd α} {ok : Nat → Option Obj → Prop} {w : World} {A : Option Addr} {n c : Nat} {l : List α} (h : Row K ok w (.slice A n c) l) (k : Nat) (hk : k ≤ n) : Row K ok w (.slice A k c) (l.take k) := by
  obtain ⟨A', c', hv, hc, hm, hr⟩ := h
  simp only [Value.slice.injEq] at hv
  obtain ⟨rfl, rfl, rfl⟩ := hv
  have hl : (l.take k).length = k := by rw [List.length_take]; omega
  refine ⟨A, c, by rw [hl], ⟨by omega, hc.2⟩, by omega, fun hp => ?_⟩
  obtain ⟨b, off, hA, hb, hj⟩ := hr (by omega)
  refine ⟨b, off, hA, hb, fun j hjl => ?_⟩
  obtain ⟨cs, h3, h4⟩ := hj j (by omega)
  exact ⟨cs, by rw [List.getElem_take]; exact h3, h4⟩
theorem Row.trim {ok : Nat → Option Obj → Prop} {w : World} {A : Option Addr} {n c : Nat} {l : List Nat} (h : Row Kd.u32 ok w (.slice A n c) l) : Row Kd.u32 ok w (.slice A (tr l).length c) (tr l) := by
  have h2 := h.take (tr l).length (by obtain ⟨A', c', hv, _⟩ := h; simp only [Value.slice.injEq] at hv; rw [hv.2.1]; exact tr_length l)
  rw [← tr_take] at h2
  exact h2
theorem Row.len {α : Type} {K : Kd α} {ok : Nat → Option Obj → Prop} {w : World} {A : Option Addr} {n c : Nat} {l : List α} (h : Row K ok w (.slice A n c) l) : n = l.length := by
  obtain ⟨A', c', hv, _⟩ := h
  simp only [Value.slice.injEq] at hv
  exact hv.2.1

set_option maxHeartbeats 400000 in
theorem trim_calls (ok : Nat → Option Obj → Prop) (A : Option Addr) (n c : Nat) (l : List Nat) (w : World) (h : Row Kd.u32 ok w (.slice A n c) l) :
    Calls Tryz.prog 68 #[.slice A n c] w fun e w' => w = w' ∧ e = .returned (.slice A (tr l).length c) := by
  obtain rfl := h.len
  obtain ⟨A', c', hv, hc, hm, hr⟩ := h.form
  simp only [Value.slice.injEq] at hv
  obtain ⟨rfl, _, rfl⟩ := hv
  clear h
  have fin : ∀ (k : Nat), k ≤ l.length → tr (l.take k) = tr l → tr (l.take k) = l.take k → (tr l).length = k := by
    intro k hk h1 h2
    rw [← h1, h2, List.length_take]; omega
  have H := Lib.hid fin
  clear fin
  go_enter Tryz.func68, Tryz.ntmps68
  go_wp2
  go_loop [0] (fun t => ∃ k : Nat, k ≤ l.length ∧ t = .slice A k c ∧ Hid (tr (l.take k) = tr l)) (fun t => match t with | .slice _ k _ => k | _ => 0)
  case atStart => exact ⟨l.length, Nat.le_refl _, rfl, by unfold Hid; rw [List.take_length]⟩
  case round =>
    obtain ⟨k, hk, rfl, HT⟩ := hrel
    cases k with
    | zero =>
      go_wp2
      go_ret
      exact ⟨rfl, by rw [H.out 0 (by omega) HT.out rfl]; rfl⟩
    | succ k =>
      rcases hr with rfl | ⟨b, off, rfl, hb, _, hj⟩
      · simp at hk
      · obtain ⟨x, hx, hx1, hck⟩ := u32_cell hj k (by omega)
        have HX := Lib.hid hx
        clear hj hx
        by_cases h0 : x = 0
        · subst h0
          go_wp2
          go_round
          case rel =>
            refine ⟨k, by omega, rfl, ?_⟩
            unfold Hid
            rw [← HT.out, List.take_succ_eq_append_getElem (by omega), ← HX.out, tr_snoc_zero]
          case measure => simp
        · have h0' : ((x : Int) == 0) = false := by simp [h0]
          go_wp2
          go_ret
          have hh := H.out (k + 1) hk HT.out (by rw [List.take_succ_eq_append_getElem (by omega), ← HX.out, tr_snoc _ _ h0])
          rw [hh]
          exact ⟨rfl, rfl⟩

/-- An integer in memory. -/
def ZAt (ok : Nat → Option Obj → Prop) (w : World) (v : Value) (z : Bool × List Nat) : Prop := ∃ u, v = .agg #[.bool z.1, u] ∧ Row Kd.u32 ok w u z.2

set_option maxHeartbeats 400000 in
theorem made_calls (ok : Nat → Option Obj → Prop) (neg : Bool) (A : Option Addr) (n c : Nat) (l : List Nat) (w : World) (h : Row Kd.u32 ok w (.slice A n c) l) :
    Calls Tryz.prog 73 #[.bool neg, .slice A n c] w fun e w' => Below w.heap.size w w' ∧ Row Kd.u32 ok w' (.slice A (tr l).length c) (tr l) ∧ e = .returned (.agg #[.bool (neg && decide (0 < (tr l).length)), .slice A (tr l).length c]) := by
  have hm := h.trim.small
  have HT := Lib.hid h.trim
  go_enter Tryz.func73, Tryz.ntmps73
  go_wp2_with fail
  refine (trim_calls ok A n c l _ (h.below (below_alloc _ _))).mono ?_
  rintro e w1 ⟨rfl, rfl⟩
  cases neg with
  | true =>
    go_wp2
    refine bodyPost_ret (v := .agg #[.bool (decide (0 < (tr l).length)), .slice A (tr l).length c]) (by simp [results, Tryz.results73, go_sem]) rfl ?_
    exact ⟨below_alloc _ _, HT.out.below (below_alloc _ _), by simp⟩
  | false =>
    go_wp2
    refine bodyPost_ret (v := .agg #[.bool false, .slice A (tr l).length c]) (by simp [results, Tryz.results73, go_sem]) rfl ?_
    exact ⟨below_alloc _ _, HT.out.below (below_alloc _ _), by simp⟩
#print axioms made_calls
end Go.Proofs.YtlaemhigmgmgjaaGreat
/- whole: Sign, FromInt64, Clone, Neg: what they return. No condition. -/
namespace Go.Proofs.YtlaemhigmgmgjaaGreat
set_option linter.unusedVariables false
set_option linter.unusedSimpArgs false
open Go.RowKit

/-- The integer that a sign and words stand for. -/
def zv (neg : Bool) (l : List Nat) : Int := if neg then -(nv l : Int) else nv l
theorem tr_nil_iff (l : List Nat) (h : WF l) : (tr l).length = 0 ↔ nv l = 0 := by
  rw [tr_eq_dig h]
  constructor
  · intro h0
    have := List.eq_nil_of_length_eq_zero h0
    by_cases hn : nv l = 0
    · exact hn
    · rw [dig_pos hn] at this; cases this
  · intro h0; rw [h0, dig_zero]; rfl
theorem zv_sign (neg : Bool) (l : List Nat) : (zv neg l).sign = if nv l = 0 then 0 else if neg then -1 else 1 := by
  unfold zv
  cases neg <;> by_cases h : nv l = 0 <;> simp [h] <;> omega

set_option maxHeartbeats 400000 in
theorem wsign_calls (ok : Nat → Option Obj → Prop) (neg : Bool) (A : Option Addr) (n c : Nat) (l : List Nat) (w : World) (h : Row Kd.u32 ok w (.slice A n c) l) :
    Calls Tryz.prog 60 #[.agg #[.bool neg, .slice A n c]] w fun e w' => Below w.heap.size w w' ∧ e = .returned (.int .i64 (zv neg l).sign) := by
  have hm := h.trim.small
  have hz := tr_nil_iff l h.wf
  have hs := Lib.hid (zv_sign neg l)
  by_cases h0 : nv l = 0
  · have h1 := hz.2 h0
    have h2 : (((tr l).length : Int) == 0) = true := by simp [h1]
    have H1 := Lib.hid h0
    clear h0 hz h1
    go_enter Tryz.func60, Tryz.ntmps60
    go_wp2_with fail
    refine (trim_calls ok A n c l _ (h.below (below_alloc _ _))).mono ?_
    rintro e w1 ⟨rfl, rfl⟩
    go_wp2
    go_ret
    exact ⟨below_alloc _ _, by rw [hs.out, if_pos H1.out]; rfl⟩
  · have h1 : ¬ (tr l).length = 0 := fun h => h0 (hz.1 h)
    have h2 : (((tr l).length : Int) == 0) = false := by rw [beq_eq_false_iff_ne]; omega
    clear h1
    have H1 := Lib.hid h0
    clear h0 hz
    cases neg with
    | true =>
      go_enter Tryz.func60, Tryz.ntmps60
      go_wp2_with fail
      refine (trim_calls ok A n c l _ (h.below (below_alloc _ _))).mono ?_
      rintro e w1 ⟨rfl, rfl⟩
      go_wp2
      go_ret
      exact ⟨below_alloc _ _, by rw [hs.out, if_neg H1.out]; rfl⟩
    | false =>
      go_enter Tryz.func60, Tryz.ntmps60
      go_wp2_with fail
      refine (trim_calls ok A n c l _ (h.below (below_alloc _ _))).mono ?_
      rintro e w1 ⟨rfl, rfl⟩
      go_wp2
      go_ret
      exact ⟨below_alloc _ _, by rw [hs.out, if_neg H1.out]; rfl⟩

/-- The words of an int64's magnitude. -/
theorem nv_two (x y : Nat) : nv [x, y] = x + 4294967296 * y := by simp [nv]

set_option maxHeartbeats 400000 in
theorem fromInt64_calls (z : Int) (w : World) (hz : I64 z) :
    Calls Tryz.prog 51 #[.int .i64 z] w fun e w' => Below w.heap.size w w' ∧ ∃ A c, e = .returned (.agg #[.bool (decide (z < 0)), .slice A (dig z.natAbs).length c]) ∧ Row Kd.u32 (New w.heap.size) w' (.slice A (dig z.natAbs).length c) (dig z.natAbs) := by
  obtain ⟨hz1, hz2⟩ := hz
  have key : ∀ (m : Nat) (W : World) (b : Nat), m ≤ 9223372036854775808 → w.heap.size + 1 ≤ b → W.heap[b]? = some (.cells #[.int .u32 ((m : Int) % 4294967296), .int .u32 ((m : Int) / 4294967296)] 114 (0, 0)) →
      Row Kd.u32 (New (w.heap.size + 1)) W (.slice (some ⟨b, 0, none⟩) 2 2) [m % 4294967296, m / 4294967296] := by
    intro m W b hm hb hh
    exact row_of_block (K := Kd.u32) (enc := fun x : Nat => .int .u32 (x : Int)) _ [m % 4294967296, m / 4294967296] rfl (fun ok x hx => ⟨rfl, by
      simp only [List.mem_cons, List.not_mem_nil, or_false] at hx
      rcases hx with rfl | rfl
      · exact Nat.mod_lt _ (by decide)
      · show m / 4294967296 < 4294967296; omega⟩) hh (fun j hj => by
      match j, hj with
      | 0, _ => rfl
      | 1, _ => rfl) hb (by simp) (by simp)
  have hd : ∀ m : Nat, m ≤ 9223372036854775808 → tr [m % 4294967296, m / 4294967296] = dig m := by
    intro m hm
    rw [tr_eq_dig (fun x hx => by
      simp only [List.mem_cons, List.not_mem_nil, or_false] at hx
      rcases hx with rfl | rfl
      · exact Nat.mod_lt _ (by decide)
      · omega), nv_two]
    congr 1
    omega
  have hp : ∀ m : Nat, 0 < m → 0 < (dig m).length := by intro m hm; rw [dig_pos (by omega)]; simp
  have KEY := Lib.hid key
  have HD := Lib.hid hd
  have HP := Lib.hid hp
  clear key hd hp
  by_cases hneg : z < 0
  · have HZ := Lib.hid (HP.out z.natAbs (by omega))
    have e1 : IntKind.u64.wrap (-IntKind.u64.wrap z) = (z.natAbs : Int) := by
      rw [IntKind.wrap_u64, IntKind.wrap_u64]; omega
    go_enter Tryz.func51, Tryz.ntmps51
    go_wp2_with fail
    refine (made_calls (New (w.heap.size + 1)) _ _ _ _ [z.natAbs % 4294967296, z.natAbs / 4294967296] _ ?hrow).mono ?_
    case hrow => exact KEY.out z.natAbs _ (w.heap.size + 1) (by omega) (by omega) (alloc_last (by simp))
    rintro e w1 ⟨hb, hr, rfl⟩
    have hB := Lib.hid (below_next (below_alloc2 w _ _) hb)
    rw [HD.out _ (by omega)] at hr ⊢
    have g0 := heap_below hb (alloc_elder (alloc_last (w := w) (o := .cells #[.bool false, .slice none 0 0] 42) rfl))
    have c0 := hcell g0 0 rfl
    have c1 := hcell g0 1 rfl
    have f0 := hfree g0 0
    have f1 := hfree g0 1
    clear g0 hb
    have HR := Lib.hid hr
    clear hr
    go_wp2
    refine bodyPost_ret (v := .agg #[.bool true, .slice (some ⟨w.heap.size + 1, 0, none⟩) (dig z.natAbs).length 2]) (by simp [results, Tryz.results51, go_sem, c0, c1]; exact HZ.out) rfl ?_
    exact ⟨two_stores hB.out (Nat.le_refl _), _, _, by simp [hneg], (HR.out.two (by omega)).new (by omega)⟩
  · have hneg' : decide (z < 0) = false := by simpa using hneg
    have e1 : IntKind.u64.wrap z = (z.natAbs : Int) := by
      rw [IntKind.wrap_u64]; omega
    go_enter Tryz.func51, Tryz.ntmps51
    go_wp2_with fail
    refine (made_calls (New (w.heap.size + 1)) _ _ _ _ [z.natAbs % 4294967296, z.natAbs / 4294967296] _ ?hrow).mono ?_
    case hrow => exact KEY.out z.natAbs _ (w.heap.size + 1) (by omega) (by omega) (alloc_last (by simp))
    rintro e w1 ⟨hb, hr, rfl⟩
    have hB := Lib.hid (below_next (below_alloc2 w _ _) hb)
    rw [HD.out _ (by omega)] at hr ⊢
    have g0 := heap_below hb (alloc_elder (alloc_last (w := w) (o := .cells #[.bool false, .slice none 0 0] 42) rfl))
    have c0 := hcell g0 0 rfl
    have c1 := hcell g0 1 rfl
    have f0 := hfree g0 0
    have f1 := hfree g0 1
    clear g0 hb
    have HR := Lib.hid hr
    clear hr
    go_wp2
    refine bodyPost_ret (v := .agg #[.bool false, .slice (some ⟨w.heap.size + 1, 0, none⟩) (dig z.natAbs).length 2]) (by simp [results, Tryz.results51, go_sem, c0, c1]) rfl ?_
    exact ⟨two_stores hB.out (Nat.le_refl _), _, _, by simp; omega, (HR.out.two (by omega)).new (by omega)⟩
#print axioms wsign_calls
#print axioms fromInt64_calls
end Go.Proofs.YtlaemhigmgmgjaaGreat
/- whole: Clone, Neg: what they return. No condition. -/
namespace Go.Proofs.YtlaemhigmgmgjaaGreat
set_option linter.unusedVariables false
set_option linter.unusedSimpArgs false
open Go.RowKit

theorem info_u32 : (Tryz.prog.info? 114).map (fun i => (i.zero, i.size, i.bytes)) = some (some (.int .u32 0), 1, 4) := by kernel_rfl
/-- A row whose cells lie in blocks of its own, read. -/
theorem Own.new {α : Type} {K : Kd α} {e base m : Nat} {ok : Nat → Option Obj → Prop} {w : World} {v : Value} {l : List α} (h : Own K e base ok w v l) (ho : ∀ k o, ok k o → New m k o) (hb : m ≤ base) : Row K (New m) w v l :=
  h.row.mono (fun k o hk => hk.elim (ho k o) (fun ⟨h1, h2⟩ => ⟨Nat.le_trans hb (h.base_le k h1).1, h2⟩))
set_option maxHeartbeats 400000 in
theorem clone_calls (ok : Nat → Option Obj → Prop) (A : Option Addr) (n c : Nat) (l : List Nat) (w : World) (h : Row Kd.u32 ok w (.slice A n c) l) (hl : l.length ≤ 1000000000) :
    Calls Tryz.prog 93 #[.slice A n c] w fun e w' => Below w.heap.size w w' ∧ ∃ A' c', e = .returned (.slice A' n c') ∧ Row Kd.u32 (New w.heap.size) w' (.slice A' n c') l := by
  have q : ∀ (w : World) (a : Option Addr) (n c : Nat), (binOp .eql 40 (.slice a n c) (.slice none 0 0)).run Tryz.prog w = .ok (.bool a.isNone) w := fun w a n c => Lib.run_eql_slice_nil w _ _ a n c 0 0 Tryz.underlying40
  obtain rfl := h.len
  cases A with
  | none =>
    obtain ⟨A', c', hv, ⟨hc, hn⟩, hm, hr⟩ := h
    simp only [Value.slice.injEq] at hv
    obtain ⟨rfl, _, rfl⟩ := hv
    obtain rfl := hn rfl
    obtain rfl : l = [] := List.eq_nil_of_length_eq_zero (by omega)
    clear hr hm hc
    go_enter Tryz.func93, Tryz.ntmps93
    go_wp2
    go_ret
    exact ⟨Below.refl _ _, none, 0, rfl, Row.nil _ _ (fun _ => rfl)⟩
  | some ad =>
    have hE := Lib.hid (h.elems)
    have hm := h.small
    go_enter Tryz.func93, Tryz.ntmps93
    have HO := Lib.hid (Own.made0 Kd.u32 114 w.heap.size w (Nat.le_refl _))
    go_wp2_with (at_builtin; refine wp_append Kd.u32 rfl _ _ 40 rfl 114 _ 4 Tryz.underlying40 info_u32 rfl (by decide) w.heap.size (fun _ _ => False) _ [] rfl HO.out _ l rfl ?hel ?hby ?hba ?_)
    case hel =>
      obtain ⟨ad', c', css, h1, h2, h3, h4⟩ := hE.out
      exact ⟨ad', c', css, h1, h2, fun j a b => Kd.below (h3 j a b) (below_alloc _ _), fun j u hu => (h4 j u hu |> fun hc => (below_alloc w _).cell (World.block_lt_of_cell? w _ hc) |>.trans hc)⟩
    case hby => simp; omega
    case hba => simp
    intro v' w1 hown hg hat
    have HF := Lib.hid hown
    have HG := Lib.hid hg
    clear hown hg hat
    go_wp2
    go_ret
    obtain ⟨A', c', rfl⟩ := HF.out.form
    exact ⟨below_grown (below_alloc w _) HG.out (fun k hk => by simp [Value.ownBlock] at hk; omega), A', c', rfl, HF.out.new (fun _ _ h => h.elim) (Nat.le_refl _)⟩

/-- An integer in memory, canonical and new. -/
def ZC (n : Nat) (w : World) (v : Value) (z : Int) : Prop := ∃ A c, v = .agg #[.bool (decide (z < 0)), .slice A (dig z.natAbs).length c] ∧ Row Kd.u32 (New n) w (.slice A (dig z.natAbs).length c) (dig z.natAbs)
theorem made_z {neg : Bool} {l : List Nat} (h : WF l) : ((neg && decide (0 < (tr l).length)) = decide (zv neg l < 0)) ∧ tr l = dig (zv neg l).natAbs := by
  have h1 : (zv neg l).natAbs = nv l := by unfold zv; cases neg <;> simp
  rw [h1, tr_eq_dig h]
  refine ⟨?_, rfl⟩
  have h2 := tr_nil_iff l h
  rw [tr_eq_dig h] at h2
  cases neg with
  | false => simp [zv]
  | true =>
    have : (0 < (dig (nv l)).length) ↔ zv true l < 0 := by
      simp only [zv, if_true]
      omega
    simp only [Bool.true_and, decide_eq_decide]
    exact this

set_option maxHeartbeats 400000 in
theorem neg_calls (ok : Nat → Option Obj → Prop) (neg : Bool) (A : Option Addr) (n c : Nat) (l : List Nat) (w : World) (h : Row Kd.u32 ok w (.slice A n c) l) (hl : l.length ≤ 1000000000) :
    Calls Tryz.prog 75 #[.agg #[.bool neg, .slice A n c]] w fun e w' => Below w.heap.size w w' ∧ ∃ v, e = .returned v ∧ ZC w.heap.size w' v (-(zv neg l)) := by
  have hwf := h.wf
  obtain ⟨W, hW, g0, g1, hB, hs⟩ := two_boxes w (.cells #[.bool neg, .slice A n c] 42) (.cells #[.bool false, .slice none 0 0] 42)
  have hrow := (h.below hB).drew
  have c0 : W.cell? ⟨w.heap.size, 0, none⟩ = some (.bool neg) := hcell g0 0 rfl
  have c1 : W.cell? ⟨w.heap.size, 1, none⟩ = some (.slice A n c) := hcell g0 1 rfl
  have G1 := Lib.hid g1
  have HS := Lib.hid hs
  clear g0 g1 hs
  go_enter Tryz.func75, Tryz.ntmps75
  go_wp2_with fail
  clear hW
  go_region_held3 (fun w' => w'.cell? ⟨w.heap.size, 0, none⟩ = some (.bool neg) ∧ w'.cell? ⟨w.heap.size, 1, none⟩ = some (.slice A n c)) (first | exact ⟨k0, k1⟩ | go_keep)
    (first
      | (go_at_call 93; refine (clone_calls ok A n c l _ hrow hl).mono ?_; rintro e w1 ⟨hb1, A', c', rfl, hr1⟩; have k0 := cell_below hb1 c0; have k1 := cell_below hb1 c1; have HB1 := Lib.hid hb1; clear hb1)
      | (go_at_call 73; refine (made_calls _ _ _ _ _ _ _ hr1).mono ?_; rintro e w2 ⟨hb2, hr2, rfl⟩; have d1 := heap_below hb2 (heap_below HB1.out G1.out); have k0 := cell_below hb2 k0; have k1 := cell_below hb2 k1; have k2 : w2.cell? ⟨w.heap.size + 1, 0, none⟩ = some (.bool false) := hcell d1 0 rfl; have k3 : w2.cell? ⟨w.heap.size + 1, 1, none⟩ = some (.slice none 0 0) := hcell d1 1 rfl; have f2 := hfree d1 0; have f3 := hfree d1 1; have HB2 := Lib.hid hb2; have HR2 := Lib.hid hr2; clear hb2 hr2 d1))
  go_wp2
  refine bodyPost_ret (v := .agg #[.bool (!neg && decide (0 < (tr l).length)), .slice A' (tr l).length c']) (by simp [results, Tryz.results75, go_sem, k2, k3]) rfl ?_
  obtain ⟨e1, e2⟩ := made_z (neg := !neg) hwf
  have e3 : zv (!neg) l = -(zv neg l) := by unfold zv; cases neg <;> simp
  rw [e3] at e1 e2
  have hB2 := below_next (below_next (below_drew hB) HB1.out) HB2.out
  refine ⟨two_stores hB2 (by omega), _, rfl, A', c', by rw [e1, e2], ?_⟩
  rw [← e2]
  exact (HR2.out.two (n0 := w.heap.size + 1) (by have := HS.out; show _ < W.heap.size; omega)).new (by have := HS.out; show _ ≤ W.heap.size; omega)
#print axioms neg_calls
end Go.Proofs.YtlaemhigmgmgjaaGreat
/- whole: pairs: its iterator's contract; carrier's three functions. No condition. -/
namespace Go.Proofs.YtlaemhigmgmgjaaGreat
set_option linter.unusedVariables false
set_option linter.unusedSimpArgs false
open Go.RowKit Go.Shelf
attribute [local go_sem] Oper.semAt_some

/-- Two words. -/
abbrev W2 := { p : Nat × Nat // p.1 < 4294967296 ∧ p.2 < 4294967296 }
def getW (l : List Nat) (k : Nat) : Nat := l[k]?.getD 0
theorem getW_lt {l : List Nat} (h : WF l) (k : Nat) : getW l k < 4294967296 := by
  unfold getW
  cases hk : l[k]? with
  | none => simp
  | some x => exact h x (List.mem_of_getElem? hk)
def pz {a b : List Nat} (ha : WF a) (hb : WF b) (k : Nat) : W2 := ⟨(getW a k, getW b k), getW_lt ha k, getW_lt hb k⟩
def upto {α : Type} (f : Nat → α) (k : Nat) : List α := (List.range k).map f
theorem upto_succ {α : Type} (f : Nat → α) (k : Nat) : upto f (k + 1) = upto f k ++ [f k] := by simp [upto, List.range_succ]
theorem upto_length {α : Type} (f : Nat → α) (k : Nat) : (upto f k).length = k := by simp [upto]

/-- The blocks of S lie as they lay. -/
def Same (S : Nat → Prop) (W W' : World) : Prop := ∀ k, S k → W'.heap[k]? = W.heap[k]?
theorem Same.refl (S : Nat → Prop) (W : World) : Same S W W := fun _ _ => rfl
theorem Same.trans {S : Nat → Prop} {A B C : World} (h : Same S A B) (k : Same S B C) : Same S A C := fun i hi => (k i hi).trans (h i hi)
theorem Same.cell {S : Nat → Prop} {A B : World} (h : Same S A B) {b o : Nat} (hb : S b) : B.cell? ⟨b, o, none⟩ = A.cell? ⟨b, o, none⟩ := World.cell?_of_block (w := A) (h b hb)
theorem same_b {S : Nat → Prop} {w : World} (hS : ∀ k, S k → k < w.heap.size) (W : World) (l : Nat) (o o' : Obj) (hl : w.heap.size ≤ l) (_ : W.heap[l]? = some o) (_ : o.isCells = false) (_ : o.isWalk = false) : Same S W (W.putObj l o') :=
  fun k hk => World.putObj_heap_other (by have := hS k hk; omega)
/-- A row in blocks of S, at a place. -/
theorem row_at {S : Nat → Prop} {W : World} {A : Option Addr} {n c : Nat} {l : List Nat} (h : Row Kd.u32 (fun k _ => S k) W (.slice A n c) l) {k : Nat} (hk : k < l.length) :
    ∃ b off, A = some ⟨b, off, none⟩ ∧ W.cell? ⟨b, off + k, none⟩ = some (.int .u32 ((getW l k : Nat) : Int)) := by
  obtain ⟨A', c', hv, hc, hm, hr⟩ := h
  simp only [Value.slice.injEq] at hv
  obtain ⟨rfl, rfl, rfl⟩ := hv
  obtain ⟨b, off, rfl, hb, hj⟩ := hr (by omega)
  obtain ⟨x, hx, _, hcell⟩ := u32_cell hj k hk
  refine ⟨b, off, rfl, ?_⟩
  rw [hcell, hx, getW, List.getElem?_eq_getElem hk]; rfl

set_option maxRecDepth 100000 in
set_option maxHeartbeats 2000000 in
theorem pairs1_in (F : Fence) (n : Nat) (h7 : F.fn 90) (hro : F.round = none) (hn : 1 ≤ n) (S : Nat → Prop) (l B1 B2 na ca nb cb : Nat) (Aa Ab : Option Addr) (a b : List Nat) (ha : WF a) (hb : WF b) (J Jx : List W2 → World → Prop)
    (hY : ∀ pre x W, J pre W → pre.length < max a.length b.length → YieldAt F (n - 1) Tryz.prog l #[.int .u64 (x.1.1 : Int), .int .u64 (x.1.2 : Int)] W fun e W' =>
      (e = .returned (.bool true) ∧ J (pre ++ [x]) W' ∧ Same S W W') ∨ (e = .returned (.bool false) ∧ Jx (pre ++ [x]) W'))
    (W : World) (h1 : W.cell? ⟨B1, 0, none⟩ = some (.slice Aa na ca)) (h2 : W.cell? ⟨B2, 0, none⟩ = some (.slice Ab nb cb)) (hB1 : S B1) (hB2 : S B2)
    (ra : Row Kd.u32 (fun k _ => S k) W (.slice Aa na ca) a) (rb : Row Kd.u32 (fun k _ => S k) W (.slice Ab nb cb) b) (h0 : J [] W) :
    CallsIn F n Tryz.prog 90 #[.func (.yield l) #[] #[], .pointer (some ⟨B1, 0, none⟩), .pointer (some ⟨B2, 0, none⟩)] W fun e W' => (∃ v, e = .returned v) ∧
      ((∃ ys, ys = upto (pz ha hb) (max a.length b.length) ∧ J ys W') ∨ (∃ pre, (∃ k, k ≤ max a.length b.length ∧ pre = upto (pz ha hb) k) ∧ Jx pre W')) := by
  have ma := ra.small
  have mb := rb.small
  obtain rfl := ra.len
  obtain rfl := rb.len
  refine callsIn_of_wp Tryz.func90 rfl h7 ?_ hro
  simp only [Tryz.ntmps90, List.size_toArray, List.length_cons, List.length_nil, Nat.reduceAdd, Nat.reduceSub, Array.replicate_succ, Array.replicate_zero, List.push_toArray, List.append_toArray, List.nil_append, List.cons_append]
  gi_wp2
  all_goals
    gi_loopw [12] (fun i wr => ∃ k : Nat, k ≤ max a.length b.length ∧ i = .int .i64 k ∧ J (upto (pz ha hb) k) wr ∧ Same S W wr)
      (fun i _ => max a.length b.length - (intOf i).toNat)
    case atStart => exact ⟨0, Nat.zero_le _, rfl, h0, Same.refl _ _⟩
    case round =>
      obtain ⟨k, hk, rfl, hJs, hnx⟩ := hrel
      have k1 := (hnx.cell hB1).trans h1
      have k2 := (hnx.cell hB2).trans h2
      have rak := ra.keep (fun k hk => hnx k hk)
      have rbk := rb.keep (fun k hk => hnx k hk)
      have J3 : ∀ W3, J (upto (pz ha hb) k ++ [pz ha hb k]) W3 → J (upto (pz ha hb) (k + 1)) W3 := fun W3 h => by rw [upto_succ]; exact h
      have hyk := hY _ (pz ha hb k) wr hJs
      rw [upto_length] at hyk
      have ea : ((pz ha hb k).1.1 : Int) = (getW a k : Int) := rfl
      have eb : ((pz ha hb k).1.2 : Int) = (getW b k : Int) := rfl
      rw [ea, eb] at hyk
      clear ea eb
      have za : ¬ k < a.length → (getW a k : Int) = 0 := fun h => by unfold getW; rw [List.getElem?_eq_none (by omega)]; rfl
      have zb : ¬ k < b.length → (getW b k : Int) = 0 := fun h => by unfold getW; rw [List.getElem?_eq_none (by omega)]; rfl
      have HY := Lib.hid hyk
      have HN := Lib.hid hnx
      have ZA := Lib.hid za
      have ZB := Lib.hid zb
      clear hyk hnx za zb h0 h1 h2 ra rb hY
      have wa : IntKind.u64.wrap (getW a k : Int) = (getW a k : Int) := IntWalk.u64_in _ ⟨by omega, by have := getW_lt ha k; omega⟩
      have wb : IntKind.u64.wrap (getW b k : Int) = (getW b k : Int) := IntWalk.u64_in _ ⟨by omega, by have := getW_lt hb k; omega⟩
      by_cases hka : k < a.length
      · obtain ⟨ba, oa, rfl, hca⟩ := row_at rak hka
        by_cases hkb : k < b.length
        · obtain ⟨bb, ob, rfl, hcb⟩ := row_at rbk hkb
          obtain ⟨fn, tmps, assign, body, hy, hR⟩ := HY.out (by omega)
          clear rak rbk
          gi_wp2
          refine hR.mono ?_
          rintro e W3 (⟨rfl, hJ3, hk3⟩ | ⟨rfl, hJx3⟩)
          · gi_wp2
            go_roundw
            case rel => exact ⟨k + 1, by omega, by simp, J3 _ hJ3, HN.out.trans hk3⟩
            case measure => simp [intOf]; omega
          · gi_wp2
            refine bodyPost_ret (results_none rfl _ _ _) rfl ?_
            exact ⟨⟨_, rfl⟩, .inr ⟨_, ⟨k + 1, by omega, (upto_succ _ _).symm⟩, hJx3⟩⟩
        · first
          | (exfalso; omega)
          | (have hyk := HY.out (by omega)
             rw [ZB.out hkb] at hyk
             obtain ⟨fn, tmps, assign, body, hy, hR⟩ := hyk
             clear rak rbk
             gi_wp2
             refine hR.mono ?_
             rintro e W3 (⟨rfl, hJ3, hk3⟩ | ⟨rfl, hJx3⟩)
             · gi_wp2
               go_roundw
               case rel => exact ⟨k + 1, by omega, by simp, J3 _ hJ3, HN.out.trans hk3⟩
               case measure => simp [intOf]; omega
             · gi_wp2
               refine bodyPost_ret (results_none rfl _ _ _) rfl ?_
               exact ⟨⟨_, rfl⟩, .inr ⟨_, ⟨k + 1, by omega, (upto_succ _ _).symm⟩, hJx3⟩⟩)
      · by_cases hkb : k < b.length
        · first
          | (exfalso; omega)
          | (obtain ⟨bb, ob, rfl, hcb⟩ := row_at rbk hkb
             have hyk := HY.out (by omega)
             rw [ZA.out hka] at hyk
             obtain ⟨fn, tmps, assign, body, hy, hR⟩ := hyk
             clear rak rbk
             gi_wp2
             refine hR.mono ?_
             rintro e W3 (⟨rfl, hJ3, hk3⟩ | ⟨rfl, hJx3⟩)
             · gi_wp2
               go_roundw
               case rel => exact ⟨k + 1, by omega, by simp, J3 _ hJ3, HN.out.trans hk3⟩
               case measure => simp [intOf]; omega
             · gi_wp2
               refine bodyPost_ret (results_none rfl _ _ _) rfl ?_
               exact ⟨⟨_, rfl⟩, .inr ⟨_, ⟨k + 1, by omega, (upto_succ _ _).symm⟩, hJx3⟩⟩)
        · obtain rfl : k = max a.length b.length := by omega
          gi_wp2
          go_end0
          exact ⟨⟨_, rfl⟩, .inl ⟨_, rfl, hJs⟩⟩
end Go.Proofs.YtlaemhigmgmgjaaGreat
/- whole: carrier: put and all. No condition. -/
namespace Go.Proofs.YtlaemhigmgmgjaaGreat
set_option linter.unusedVariables false
set_option linter.unusedSimpArgs false
open Go.RowKit Go.Shelf

/-- The carrier's two boxes and its row: what has been put out, and the carry. -/
structure Carrier (base Bo Bc : Nat) (w : World) (l : List Nat) (c : Nat) : Prop where
  bo : base ≤ Bo
  bc : base ≤ Bc
  ne : Bo ≠ Bc
  hc : w.heap[Bc]? = some (.cells #[.int .u64 (c : Int)] 107 (0, 0))
  ho : ∃ vo, w.heap[Bo]? = some (.cells #[vo] 40 (0, 0)) ∧ Own Kd.u32 114 base (fun _ _ => False) w vo l

theorem own_type {α : Type} {K : Kd α} {e base : Nat} {ok : Nat → Option Obj → Prop} {w : World} {v : Value} {l : List α} (h : Own K e base ok w v l) {k e' : Nat} {cs : Array Value} {fr : Nat × Nat} (hk : w.heap[k]? = some (.cells cs e' fr)) (hne : e ≠ e') : v.ownBlock ≠ some k := by
  obtain ⟨css, hl, hr, hown, _⟩ := h
  intro he
  rcases hown.2 with ⟨rfl, _⟩ | ⟨g, cap, cur, rfl, _, hg, _⟩
  · simp [Value.ownBlock] at he
  · have : g = k := by simpa [Value.ownBlock] using he
    subst this
    rw [hg] at hk
    simp only [Option.some.injEq, Obj.cells.injEq] at hk
    exact hne hk.2.1
theorem cells_kept {W W' : World} {row : Option Nat} {k : Nat} {cs : Array Value} {e : TypeId} {fr : Nat × Nat} (h : W.heap[k]? = some (.cells cs e fr)) (hg : W.grownBy W' row) (hr : ∀ r, row = some r → ∃ o : Obj, W.heap[r]? = some o ∧ o.isCells = false) : W'.heap[k]? = some (.cells cs e fr) := by
  refine (hg.block k (Array.getElem?_eq_some_iff.1 h).1 (fun he => ?_)).trans h
  obtain ⟨o, ho, hc⟩ := hr k he.symm
  rw [h] at ho
  cases ho
  cases hc
theorem own_cells {α : Type} {K : Kd α} {e base : Nat} {ok : Nat → Option Obj → Prop} {w : World} {v : Value} {l : List α} (h : Own K e base ok w v l) : ∀ (j : Nat) (o : Obj), v.ownBlock = some j → w.heap[j]? = some o → o.isCells = true := by
  obtain ⟨css, hl, hr, hown, _⟩ := h
  intro j o hj ho
  rcases hown.2 with ⟨rfl, _⟩ | ⟨g, cap, cur, rfl, _, hg, _⟩
  · simp [Value.ownBlock] at hj
  · have : g = j := by simpa [Value.ownBlock] using hj
    subst this
    rw [hg] at ho
    cases ho; rfl

theorem Carrier.kept {base Bo Bc : Nat} {W W' : World} {l : List Nat} {c : Nat} {row : Option Nat} (h : Carrier base Bo Bc W l c) (hg : W.grownBy W' row) (hr : ∀ r, row = some r → ∃ o : Obj, W.heap[r]? = some o ∧ o.isCells = false) : Carrier base Bo Bc W' l c := by
  obtain ⟨q1, q2, q3, q4, vo, q5, q6⟩ := h
  refine ⟨q1, q2, q3, cells_kept q4 hg hr, vo, cells_kept q5 hg hr, q6.kept hg ?_ (fun _ _ h => h.elim)⟩
  cases hv : vo.ownBlock with
  | none => exact .inl rfl
  | some j =>
    refine .inr (fun he => ?_)
    obtain ⟨o, ho, hc⟩ := hr j he.symm
    have := own_cells q6 j o hv ho
    rw [this] at hc; cases hc
set_option maxHeartbeats 1000000 in
theorem put_calls (base Bo Bc : Nat) (l : List Nat) (c v : Nat) (w : World) (h : Carrier base Bo Bc w l c) (hl : l.length ≤ 2000000000) (hv : v < 12884901888) (hcb : c < 4294967296) :
    Calls Tryz.prog 122 #[.int .u64 (v : Int), .pointer (some ⟨Bc, 0, none⟩), .pointer (some ⟨Bo, 0, none⟩)] w fun e w' => e = .returned (.tuple #[]) ∧
      Carrier base Bo Bc w' (l ++ [(v + c) % 4294967296]) ((v + c) / 4294967296) ∧ Below base w w' ∧ KeepsOthers w w' ∧
      (∀ k cs e fr, w.heap[k]? = some (.cells cs e fr) → k ≠ Bo → k ≠ Bc → e ≠ 114 → w'.heap[k]? = some (.cells cs e fr)) := by
  obtain ⟨hbo, hbc, hne, hc, vo, ho, hown⟩ := h
  obtain ⟨Ao, co, rfl⟩ := hown.form
  have k1 : w.cell? ⟨Bc, 0, none⟩ = some (.int .u64 (c : Int)) := hcell hc 0 rfl
  have k2 : w.cell? ⟨Bo, 0, none⟩ = some (.slice Ao l.length co) := hcell ho 0 rfl
  obtain ⟨t, ht⟩ : ∃ t, t = v + c := ⟨_, rfl⟩
  have htb : t < 17179869184 := by omega
  have hw : IntKind.u64.wrap ((v : Int) + (c : Int)) = (t : Int) := by rw [IntWalk.u64_in _ ⟨by omega, by omega⟩]; omega
  rw [← ht]
  have HT := Lib.hid ht
  clear hv hcb ht
  have HL := Lib.hid hl
  have HC := Lib.hid hc
  have HO := Lib.hid ho
  have HOWN := Lib.hid hown
  clear hl hc ho hown
  go_enter Tryz.func122, Tryz.ntmps122
  go_wp2_with (at_builtin; refine wp_append Kd.u32 rfl _ _ 40 rfl 114 _ 4 Tryz.underlying40 info_u32 rfl (by decide) base (fun _ _ => False) _ l rfl ?hown _ [t % 4294967296] rfl ?hel ?hby ?hba ?_)
  case hown => exact HOWN.out.below (below_alloc _ _)
  case hel => exact Elems.one (cs := #[.int .u32 ((t : Int) % 4294967296)]) ⟨by simp, Nat.mod_lt _ (by decide)⟩ (alloc_last rfl)
  case hby => have := HL.out; simp; omega
  case hba => have := HOWN.out; have := (Array.getElem?_eq_some_iff.1 HO.out).1; simp; omega
  intro v' w1 hown hg hat
  have n1 := own_type (HOWN.out.below (below_alloc _ (.cells #[.int .u32 ((t : Int) % 4294967296)] 114))) (alloc_elder HO.out) (by decide)
  have n2 := own_type (HOWN.out.below (below_alloc _ (.cells #[.int .u32 ((t : Int) % 4294967296)] 114))) (alloc_elder HC.out) (by decide)
  have g1 := (hg.block Bo (by have := (Array.getElem?_eq_some_iff.1 HO.out).1; simp; omega) (fun e => n1 e.symm)).trans (alloc_elder HO.out)
  have g2 := (hg.block Bc (by have := (Array.getElem?_eq_some_iff.1 HC.out).1; simp; omega) (fun e => n2 e.symm)).trans (alloc_elder HC.out)
  obtain ⟨A', c', rfl⟩ := hown.form
  have c1 : w1.cell? ⟨Bo, 0, none⟩ = some (.slice Ao l.length co) := hcell g1 0 rfl
  have c2 : w1.cell? ⟨Bc, 0, none⟩ = some (.int .u64 (c : Int)) := hcell g2 0 rfl
  have f1 := hfree g1 0
  have f2 := hfree g2 0
  have HW1 := Lib.hid hown
  have HG := Lib.hid hg
  have G1 := Lib.hid g1
  have G2 := Lib.hid g2
  clear hown hg hat n1 n2 g1 g2
  go_wp2
  go_end0
  have q1 := own_type HW1.out G1.out (by decide)
  have q2 := own_type HW1.out G2.out (by decide)
  have hb : Below base w w1 := ((Below.refl base w).alloc (by have := (Array.getElem?_eq_some_iff.1 HO.out).1; omega) _).grown HG.out (by have := (Array.getElem?_eq_some_iff.1 HO.out).1; simp; omega) (fun k hk => (HOWN.out.base_le k hk).1)
  have hk1 : KeepsOthers w w1 := (KeepsOthers.alloc w _).trans (KeepsOthers.of_grownBy HG.out (own_cells (HOWN.out.below (below_alloc _ _))))
  have e1 : (Value.slice A' (l.length + 1) c') = .slice A' (l ++ [t % 4294967296]).length c' := by simp
  have e2 : (Value.int .u64 ((t : Int) / 4294967296)) = .int .u64 ((t / 4294967296 : Nat) : Int) := by simp
  rw [e1, e2]
  refine ⟨rfl, ⟨hbo, hbc, hne, set_same (set_far G2.out hne.symm), _, set_far (set_same G1.out) hne, ?_⟩, (hb.setCell (p := ⟨Bo, 0, none⟩) hbo _).setCell (p := ⟨Bc, 0, none⟩) hbc _, (hk1.trans (KeepsOthers.setCell _ _ _)).trans (KeepsOthers.setCell _ _ _), ?_⟩
  · exact (HW1.out.kept (grown_set _ _ _) (.inr q1) (fun _ _ h => h.elim)).kept (grown_set _ _ _) (.inr q2) (fun _ _ h => h.elim)
  · intro k cs e fr hk h1 h2 h3
    have h4 := own_type HOWN.out hk h3.symm
    refine set_far (set_far ?_ h1) h2
    exact (HG.out.block k (by have := (Array.getElem?_eq_some_iff.1 hk).1; simp; omega) h4.symm).trans (alloc_elder hk)

set_option maxHeartbeats 1000000 in
theorem all_calls (base Bo Bc : Nat) (l : List Nat) (c : Nat) (w : World) (h : Carrier base Bo Bc w l c) (hl : l.length ≤ 2000000000) (hcb : c < 4294967296) :
    Calls Tryz.prog 123 #[.pointer (some ⟨Bo, 0, none⟩), .pointer (some ⟨Bc, 0, none⟩)] w fun e w' => ∃ A n cc, e = .returned (.slice A n cc) ∧
      Row Kd.u32 (New base) w' (.slice A n cc) (l ++ [c]) ∧ Below base w w' ∧ KeepsOthers w w' := by
  obtain ⟨hbo, hbc, hne, hc, vo, ho, hown⟩ := h
  obtain ⟨Ao, co, rfl⟩ := hown.form
  have k1 : w.cell? ⟨Bc, 0, none⟩ = some (.int .u64 (c : Int)) := hcell hc 0 rfl
  have k2 : w.cell? ⟨Bo, 0, none⟩ = some (.slice Ao l.length co) := hcell ho 0 rfl
  have hw : (c : Int) % 4294967296 = (c : Int) := by omega
  have HL := Lib.hid hl
  have HC := Lib.hid hc
  have HO := Lib.hid ho
  have HOWN := Lib.hid hown
  clear hl hc ho hown
  go_enter Tryz.func123, Tryz.ntmps123
  go_wp2_with (at_builtin; refine wp_append Kd.u32 rfl _ _ 40 rfl 114 _ 4 Tryz.underlying40 info_u32 rfl (by decide) base (fun _ _ => False) _ l rfl ?hown _ [c] rfl ?hel ?hby ?hba ?_)
  case hown => exact HOWN.out.below (below_alloc _ _)
  case hel => exact Elems.one (cs := #[.int .u32 (c : Int)]) ⟨by simp, hcb⟩ (alloc_last rfl)
  case hby => have := HL.out; simp; omega
  case hba => have := HOWN.out; have := (Array.getElem?_eq_some_iff.1 HO.out).1; simp; omega
  intro v' w1 hown hg hat
  obtain ⟨A', c', rfl⟩ := hown.form
  have HW1 := Lib.hid hown
  have HG := Lib.hid hg
  clear hown hg hat
  go_wp2
  go_ret
  have hb : Below base w w1 := ((Below.refl base w).alloc (by have := (Array.getElem?_eq_some_iff.1 HO.out).1; omega) _).grown HG.out (by have := (Array.getElem?_eq_some_iff.1 HO.out).1; simp; omega) (fun k hk => (HOWN.out.base_le k hk).1)
  have hk1 : KeepsOthers w w1 := (KeepsOthers.alloc w _).trans (KeepsOthers.of_grownBy HG.out (own_cells (HOWN.out.below (below_alloc _ _))))
  exact ⟨A', _, c', rfl, HW1.out.new (fun _ _ h => h.elim) (Nat.le_refl _), hb, hk1⟩

set_option maxHeartbeats 1000000 in
theorem carrier_calls (w : World) :
    Calls Tryz.prog 104 #[] w fun e w' => e = .returned (.tuple #[.func (.func 122) #[] #[.pointer (some ⟨w.heap.size + 1, 0, none⟩), .pointer (some ⟨w.heap.size, 0, none⟩)], .func (.func 123) #[] #[.pointer (some ⟨w.heap.size, 0, none⟩), .pointer (some ⟨w.heap.size + 1, 0, none⟩)]]) ∧
      Carrier w.heap.size w.heap.size (w.heap.size + 1) w' [] 0 ∧ Below w.heap.size w w' ∧ w'.heap.size = w.heap.size + 2 := by
  go_enter Tryz.func104, Tryz.ntmps104
  go_wp2
  go_ret2
  exact ⟨rfl, ⟨Nat.le_refl _, by omega, by omega, alloc_last (by simp), _, alloc_elder (alloc_last rfl), Own.nil _ _ _ _ _⟩, below_alloc2 _ _ _, by simp⟩
end Go.Proofs.YtlaemhigmgmgjaaGreat
