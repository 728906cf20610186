/- Several texts of my own, joined. No condition beyond what each theorem states. -/
import Derived.Test.YtlaemhigmgmgjaaGreatK4
import Derived.Test.YtlaemhigmgmgjaaGreatK3
import Derived.Test.YtlaemhigmgmgjaaGreatK5
import Derived.Deep.DeepCutAuto
/- stack: Share: what it returns. No condition beyond sizes. (Printed by tools/share.py.) -/
namespace Go.Proofs.YtlaemhigmgmgjaaGreat
set_option linter.unusedVariables false
set_option linter.unusedSimpArgs false
open Go.RowKit

theorem den_lt {ok : Nat → Option Obj → Prop} {w : World} {v : Value} {q : Rat} {k : Nat} (h : QIn ok w v q k) : q.den < 4294967296 ^ (k + 1) := by
  obtain ⟨x, y, hq, rfl⟩ := h
  obtain ⟨g1, A1, c1, l1, g2, A2, c2, l2, rfl, r1, r2, rfl, rfl, h1, h2⟩ := hq
  have h3 : (zv g2 l2).natAbs < 4294967296 ^ k := by
    rw [zv_natAbs]; exact Nat.lt_of_lt_of_le (nv_lt r2.wf) (Nat.pow_le_pow_right (by decide) h2)
  have hpos : 0 < 4294967296 ^ k := Nat.pow_pos (by decide)
  have hle : (fv (zv g1 l1) (zv g2 l2)).den ≤ 4294967296 ^ k := by
    unfold fv
    by_cases h0 : zv g2 l2 = 0
    · rw [if_pos h0]; show 1 ≤ _; exact hpos
    · rw [if_neg h0, Rat.den_divInt, if_neg h0]
      exact Nat.le_trans (Nat.div_le_self _ _) (Nat.le_of_lt h3)
  rw [Nat.pow_succ]
  omega
theorem shareSt_len (parts : List Int) : ∀ (m : Nat) (st : List Rat × Rat), (shareSt parts m st).1.length = st.1.length
  | 0, _ => rfl
  | m + 1, st => by unfold shareSt; rw [shareSt_len parts m]; simp [doOne]
def shareR (s : List Lv) (q : Rat) : List Rat × Int := if wrongE s q = 0 then (shareQ s q, 0) else ([], wrongE s q)
theorem wrong_ok {s : List Lv} {q : Rat} (h : wrongE s q = 0) : checkE s = 0 ∧ 0 ≤ q ∧ q ≤ ((totalE s : Int) : Rat) := by
  unfold wrongE at h
  by_cases hc : checkE s = 0
  · rw [if_pos hc] at h
    by_cases hb : q < 0 ∨ ((totalE s : Int) : Rat) < q
    · rw [if_pos hb] at h; omega
    · exact ⟨hc, Rat.not_lt.1 (fun h => hb (.inl h)), Rat.not_lt.1 (fun h => hb (.inr h))⟩
  · rw [if_neg hc] at h; exact absurd h hc
theorem QIn.four {ok : Nat → Option Obj → Prop} {w : World} {v a b c d : Value} {q : Rat} {k n0 : Nat} (h : QIn ok w v q k) (hn : ∀ o, ¬ ok n0 o) : QIn ok ((((w.setCell ⟨n0, 0, none⟩ a).setCell ⟨n0, 1, none⟩ b).setCell ⟨n0, 2, none⟩ c).setCell ⟨n0, 3, none⟩ d) v q k := by
  obtain ⟨x, y, h1, h2⟩ := h
  exact ⟨x, y, h1.four hn, h2⟩
theorem QIn.held {ok : Nat → Option Obj → Prop} {w : World} {v : Value} {q : Rat} {k : Nat} (h : QIn ok w v q k) : QIn (fun b o => ok b o ∧ b < w.heap.size) w v q k := by
  obtain ⟨x, y, h1, h2⟩ := h
  exact ⟨x, y, h1.held, h2⟩

theorem QQ.keepB {ok : Nat → Option Obj → Prop} {w : World} {v a b c d : Value} {x y : Int} {k n0 i0 i1 i2 i3 : Nat} (h : QQ ok w v x y k) (hn : ∀ o, ok n0 o → False) : QQ ok ((((w.setCell ⟨n0, i0, none⟩ a).setCell ⟨n0, i1, none⟩ b).setCell ⟨n0, i2, none⟩ c).setCell ⟨n0, i3, none⟩ d) v x y k := by
  obtain ⟨g1, A1, c1, l1, g2, A2, c2, l2, h0, h1, h2, h3⟩ := h
  have H : ∀ i : Nat, ∀ k o, ok k o → k ≠ (⟨n0, i, none⟩ : Addr).block := fun i k o hk e => hn o (by have e' : k = n0 := e; rw [← e']; exact hk)
  exact ⟨g1, A1, c1, l1, g2, A2, c2, l2, h0, (((h1.set (H i0)).set (H i1)).set (H i2)).set (H i3), (((h2.set (H i0)).set (H i1)).set (H i2)).set (H i3), h3⟩
theorem QC.fin {m n : Nat} {w0 w : World} {v : Value} {q : Rat} (h : QC m w0 v q) (hm : n ≤ m) (g : QC m w0 v q → QC m w v q) : QC n w v q := (g h).mono hm
theorem QC.fours {m n0 : Nat} {w : World} {v a b c d : Value} {q : Rat} (h : QC m w v q) (h0 : n0 < m) : QC m ((((w.setCell ⟨n0, 0, none⟩ a).setCell ⟨n0, 1, none⟩ b).setCell ⟨n0, 2, none⟩ c).setCell ⟨n0, 3, none⟩ d) v q := h.stored (Nat.le_refl _) h0
theorem QC.alloc {m : Nat} {w : World} {v : Value} {q : Rat} (h : QC m w v q) (o : Obj) : QC m (w.alloc o) v q := h.below (below_alloc w o)

set_option maxRecDepth 100000 in
set_option maxHeartbeats 8000000 in
theorem share_calls (ok : Nat → Option Obj → Prop) (A : Option Addr) (nn c : Nat) (s : List Lv) (u : Value) (q : Rat) (k : Nat) (w : World) (h : Row Kd.level ok w (.slice A nn c) s) (hu : QIn (fun _ _ => True) w u q k) (hk : k ≤ 10000000) (hk1 : 1 ≤ k) (hq : 0 ≤ q) :
    Calls Tryz.prog 41 #[.slice A nn c, u] w fun e w' => Below w.heap.size w w' ∧ ∃ v, e = .returned (.tuple #[v, .int .i64 (shareR s q).2]) ∧ Row Kd.qc (New w.heap.size) w' v (shareR s q).1 := by
  obtain rfl := h.len
  obtain ⟨t0, A0, m0, c0, s0, B0, j0, d0, rfl, HU⟩ := hu.form
  obtain ⟨W, hW, g0, hB, hs⟩ := one_box w (.cells #[.bool t0, .slice A0 m0 c0, .bool s0, .slice B0 j0 d0] 44)
  have a0 : W.cell? ⟨w.heap.size, 0, none⟩ = some (.bool t0) := hcell g0 0 rfl
  have a1 : W.cell? ⟨w.heap.size, 1, none⟩ = some (.slice A0 m0 c0) := hcell g0 1 rfl
  have a2 : W.cell? ⟨w.heap.size, 2, none⟩ = some (.bool s0) := hcell g0 2 rfl
  have a3 : W.cell? ⟨w.heap.size, 3, none⟩ = some (.slice B0 j0 d0) := hcell g0 3 rfl
  have G0 := Lib.hid g0
  have HB := Lib.hid hB
  have HS := Lib.hid hs
  have HR := Lib.hid h
  have HQ0 := Lib.hid hq
  clear g0 hB hs hu h hq
  go_enter Tryz.func41, Tryz.ntmps41
  go_wp2_with fail
  clear hW
  refine (wrong_calls ok _ _ _ s _ q k _ (HR.out.below HB.out) (HU.out.below HB.out) (by omega) hk1 HQ0.out).mono ?_
  rintro e w1 ⟨hb1, rfl⟩
  have HB1 := Lib.hid (below_next HB.out hb1)
  have G1 := Lib.hid (heap_below hb1 G0.out)
  have HS1 := Lib.hid hb1.size
  obtain ⟨d, hd⟩ : ∃ d, d = wrongE s q := ⟨_, rfl⟩
  rw [← hd]
  clear hb1 a0 a1 a2 a3
  by_cases h0 : d = 0
  · have HE : Hid (shareR s q = (shareQ s q, 0)) := Lib.hid (by unfold shareR; rw [if_pos (hd ▸ h0)])
    have hw := wrong_ok (hd ▸ h0)
    have HW := Lib.hid hw
    clear hd hw
    subst h0
    by_cases hs0 : s.length = 0
    · obtain rfl := List.eq_nil_of_length_eq_zero hs0
      clear hs0
      go_wp2
      refine bodyPost_ret (v := .tuple #[.slice none 0 0, .int .i64 0]) (by simp [results, Tryz.results41, go_sem]) rfl ?_
      rw [HE.out]
      exact ⟨HB1.out, _, rfl, by simpa [shareQ, shareAll, lvAt] using Row.nil (K := Kd.qc) 0 none (fun _ => rfl)⟩
    · have hok := check_ok HW.out.1
      have HOK := Lib.hid hok
      have hs48 : s.length ≤ 48 := hok.1
      have hs1 : 0 < s.length := by omega
      have hsb : ((s.length : Int) == 0) = false := by rw [beq_eq_false_iff_ne]; omega
      obtain ⟨b, off, Ap0, cp0, rfl, _, _, z2, _, _, _⟩ := level_cell (HR.out.below HB1.out) hs1
      rw [Nat.zero_mul, Nat.add_zero] at z2
      obtain ⟨n, hn⟩ : ∃ n, n = (lvAt s 0).2.2.length := ⟨_, rfl⟩
      have hok0 := hok.2 s[0] (List.getElem_mem _)
      have hn16 : n ≤ 16 := hn ▸ hok0.n16
      rw [← hn] at z2
      have hmk := make_qs n hn16
      have HN := Lib.hid hn
      clear hok hs0 hn hok0
      go_wp2_with fail
      obtain ⟨W2, hW2, g2, hB2, hs2⟩ := one_box w1 (.cells (madeCells zcells (n * 4)) 44)
      obtain ⟨B, hBd⟩ : ∃ B, B = w1.heap.size := ⟨_, rfl⟩
      rw [hW2]
      have hBw : w.heap.size < B := by have h1 := HS.out; have h2 := HS1.out; omega
      rw [← hBd] at g2 hs2
      have HO2 : Hid (OutQ W2 B (List.replicate n 0)) := Lib.hid (OutQ.made g2)
      have HBW2 := Lib.hid (below_next HB1.out hB2)
      have G2 := Lib.hid (heap_below hB2 G1.out)
      obtain ⟨D, hD⟩ : ∃ D, D = q.den := ⟨_, rfl⟩
      have HDK : Hid (0 < D ∧ D < 4294967296 ^ (k + 1)) := Lib.hid ⟨hD ▸ q.den_pos, hD ▸ den_lt HU.out⟩
      have HOV : Hid (Ov D 768000000 q) := Lib.hid (by
        have h1 := totalE_le s
        rw [hD]
        exact (Ov.self HQ0.out HW.out.2.2).mono (by omega))
      have HQB : Hid (QIn (fun b _ => b < w.heap.size ∨ B + 1 ≤ b) W2 (.agg #[.bool t0, .slice A0 m0 c0, .bool s0, .slice B0 j0 d0]) q (k + 2)) := Lib.hid ((((HU.out.held).mono (fun _ _ h => .inl h.2)).below HBW2.out).le (by omega))
      have HSZ2 : Hid (B + 1 ≤ W2.heap.size) := Lib.hid (by omega)
      rw [← hBd]
      clear hW2 g2 hB2 hs2 hBd hmk hD z2
      go_loopw [31] (fun i wr => ∃ (i' : Nat) (os : List Rat) (x : Rat) (t2 : Bool) (A2 : Option Addr) (m2 c2 : Nat) (s2 : Bool) (B2 : Option Addr) (j2 d2 : Nat), i' ≤ s.length ∧ i = .int .i64 i' ∧ Hid (OutQ wr B os) ∧ Hid (os.length = n) ∧ Hid (wr.heap[w.heap.size]? = some (.cells #[.bool t2, .slice A2 m2 c2, .bool s2, .slice B2 j2 d2] 44 (0, 0))) ∧ Hid (QIn (fun b _ => b < w.heap.size ∨ B + 1 ≤ b) wr (.agg #[.bool t2, .slice A2 m2 c2, .bool s2, .slice B2 j2 d2]) x (k + 2)) ∧ Hid (Ov D 768000000 x) ∧ Hid (∀ j (h : j < os.length), Ov D (1000000 * i') os[j]) ∧ Hid (shareAll (s.drop i') (os, x) = shareAll s (List.replicate n 0, q)) ∧ Hid (Below w.heap.size w wr) ∧ Hid (B + 1 ≤ wr.heap.size))
        (fun i _ => s.length - (intOf i).toNat)
      case atStart =>
        exact ⟨0, List.replicate n 0, q, t0, A0, m0, c0, s0, B0, j0, d0, Nat.zero_le _, rfl, HO2.out, by show _ = _; simp, G2.out, HQB.out, HOV.out, fun j h => by rw [List.getElem_replicate]; exact ⟨0, by simp, by omega, by simp⟩, rfl, HBW2.out, HSZ2.out⟩
      case round =>
        obtain ⟨i', os, x, t2, A2, m2, c2, s2, B2, j2, d2, hi', rfl, HO, HL, HX, HQX, HOVX, HOS, HSH, HBW, HSZ⟩ := hrel
        by_cases hlt : i' < s.length
        · obtain ⟨b1, off1, Ap, cp, hA1, y0, y1, y2, ip, iq, hv⟩ := level_cell HR.out hlt
          obtain ⟨rfl, rfl⟩ : b = b1 ∧ off = off1 := by simpa using hA1
          obtain ⟨⟨p, qq, l⟩, hxd⟩ : ∃ y, y = lvAt s i' := ⟨_, rfl⟩
          rw [← hxd] at y0 y1 y2 hv ip iq
          simp only at y0 y1 y2 hv ip iq
          have hlo := HOK.out.2 (p, qq, l) (by rw [hxd, lvAt_eq hlt]; exact List.getElem_mem _)
          have hln : l.length = n := by rw [HN.out]; exact hlo.len
          have HLP := Lib.hid hlo.parts
          rw [hln] at y2 hv
          have y0 := cell_below HBW.out y0
          have y1 := cell_below HBW.out y1
          have y2 := cell_below HBW.out y2
          have HV := Lib.hid hv
          have hdrop : s.drop i' = (p, qq, l) :: s.drop (i' + 1) := by rw [List.drop_eq_getElem_cons hlt, hxd, lvAt_eq hlt]
          have HSH1 : Hid (shareAll (s.drop (i' + 1)) (shareSt l n (os, x)) = shareAll s (List.replicate n 0, q)) := Lib.hid (by
            rw [← HSH.out, hdrop]
            show _ = shareAll _ (shareSt l l.length (os, x))
            rw [hln])
          have HLN := Lib.hid hln
          have HIP := Lib.hid (And.intro ip iq)
          clear hA1 hxd hlo hln hv hdrop ip iq
          obtain ⟨Wx, hWx, gx, hBx, hsx⟩ := one_box wr (.cells #[.int .i64 p, .int .i64 qq, .slice Ap n cp] 105)
          obtain ⟨r9, hr9⟩ : ∃ r9, r9 = wr.heap.size := ⟨_, rfl⟩
          have HR9 : Hid (B + 1 ≤ r9) := Lib.hid (hr9 ▸ HSZ.out)
          rw [← hr9] at gx hsx
          have GX := Lib.hid gx
          have HBX := Lib.hid (below_next HBW.out hBx)
          have HOX := Lib.hid (HO.out.below hBx)
          have HXX := Lib.hid (heap_below hBx HX.out)
          have HQXX := Lib.hid (HQX.out.below hBx)
          have HSX := Lib.hid hsx
          have hwn : IntKind.i64.wrap ((n : Int) - 1) = (n : Int) - 1 := IntWalk.i64_in _ ⟨by omega, by omega⟩
          clear gx hBx hsx
          go_wp2_with fail
          clear hWx
          rw [← hr9]
          clear hr9 y0 y1 y2
          go_loopw [10] (fun v wx => ∃ (m : Nat) (z : Int) (os : List Rat) (x : Rat) (t3 : Bool) (A3 : Option Addr) (m3 c3 : Nat) (s3 : Bool) (B3 : Option Addr) (j3 d3 : Nat), m ≤ n ∧ v = .int .i64 z ∧ z = (m : Int) - 1 ∧ Hid (OutQ wx B os) ∧ Hid (os.length = n) ∧ Hid (wx.heap[w.heap.size]? = some (.cells #[.bool t3, .slice A3 m3 c3, .bool s3, .slice B3 j3 d3] 44 (0, 0))) ∧ Hid (QIn (fun b _ => b < w.heap.size ∨ B + 1 ≤ b) wx (.agg #[.bool t3, .slice A3 m3 c3, .bool s3, .slice B3 j3 d3]) x (k + 2)) ∧ Hid (Ov D 768000000 x) ∧ Hid (∀ j (h : j < os.length), (j < m → Ov D (1000000 * i') os[j]) ∧ Ov D (1000000 * (i' + 1)) os[j]) ∧ Hid (shareAll (s.drop (i' + 1)) (shareSt l m (os, x)) = shareAll s (List.replicate n 0, q)) ∧
              Hid (wx.heap[r9]? = some (.cells #[.int .i64 p, .int .i64 qq, .slice Ap n cp] 105 (0, 0))) ∧ Hid (Below w.heap.size w wx) ∧ Hid (B + 1 ≤ wx.heap.size))
            (fun v _ => (intOf v + 1).toNat)
          case atStart =>
            exact ⟨n, _, os, x, t2, A2, m2, c2, s2, B2, j2, d2, Nat.le_refl _, rfl, rfl, HOX.out, HL.out, HXX.out, HQXX.out, HOVX.out, fun j h => ⟨fun _ => HOS.out j h, (HOS.out j h).mono (by omega)⟩, HSH1.out, GX.out, HBX.out, by have h1 := HSX.out; have h2 := HR9.out; unfold Hid; omega⟩
          case round =>
            obtain ⟨m, z, os, x, t3, A3, m3, c3, s3, B3, j3, d3, hm, rfl, hz, HO, HL, HX, HQX, HOVX, HOS, HSH, GX, HBW, HSZ⟩ := hrel
            cases m with
            | zero =>
              obtain rfl : z = -1 := by omega
              clear hz
              go_wp2
              go_roundw
              case rel =>
                exact ⟨i' + 1, os, x, t3, A3, m3, c3, s3, B3, j3, d3, hlt, by go_num, HO.out, HL.out, HX.out, HQX.out, HOVX.out, fun j h => (HOS.out j h).2, HSH.out, HBW.out, HSZ.out⟩
              case measure => simp [intOf]; omega
            | succ m' =>
              obtain rfl : z = (m' : Int) := by omega
              clear hz
              have hml : m' < l.length := by rw [HLN.out]; omega
              obtain ⟨bp, op, rfl, pp0, _⟩ := i64_cell (HV.out.below HBW.out) hml
              obtain ⟨pj, hpj⟩ : ∃ y, y = l[m'] := ⟨_, rfl⟩
              rw [← hpj] at pp0
              have hpb := HLP.out pj (by rw [hpj]; exact List.getElem_mem _)
              have HPJ := Lib.hid hpj
              have HPB := Lib.hid hpb
              have a0 : wr.drew.cell? ⟨w.heap.size, 0, none⟩ = some (.bool t3) := hcell (heap_drew HX.out) 0 rfl
              have a1 : wr.drew.cell? ⟨w.heap.size, 1, none⟩ = some (.slice A3 m3 c3) := hcell (heap_drew HX.out) 1 rfl
              have a2 : wr.drew.cell? ⟨w.heap.size, 2, none⟩ = some (.bool s3) := hcell (heap_drew HX.out) 2 rfl
              have a3 : wr.drew.cell? ⟨w.heap.size, 3, none⟩ = some (.slice B3 j3 d3) := hcell (heap_drew HX.out) 3 rfl
              have y2 : wr.drew.cell? ⟨r9, 2, none⟩ = some (.slice (some ⟨bp, op, none⟩) n cp) := hcell (heap_drew GX.out) 2 rfl
              have pp : wr.drew.cell? ⟨bp, op + m', none⟩ = some (.int .i64 pj) := pp0
              have hm0 : (0 : Int) ≤ (m' : Int) := by omega
              have hm1 : (m' : Int) < (n : Int) := by omega
              clear pp0 hpj hpb
              go_upto_region 11 with fail
              go_cut [11] (fun s11 wx => ∃ (n11 : Nat) (t4 : Bool) (A4 : Option Addr) (m4 c4 : Nat) (s4 : Bool) (B4 : Option Addr) (j4 d4 : Nat), s11 = .pointer (some ⟨n11, 0, none⟩) ∧ Hid (wx.heap[n11]? = some (.cells #[.bool t4, .slice A4 m4 c4, .bool s4, .slice B4 j4 d4] 44 (0, 0))) ∧ Hid (QC (B + 1) wx (.agg #[.bool t4, .slice A4 m4 c4, .bool s4, .slice B4 j4 d4]) (minQ x (pj : Rat))) ∧ Hid (Below wr.drew.heap.size wr.drew wx) ∧ Hid (wr.heap.size ≤ n11))
              case first J0 K0 hJ0 hK0 =>
                have hsz := HSZ.out
                go_region_held3 (fun w' => Below wr.drew.heap.size wr.drew w' ∧ w'.cell? ⟨w.heap.size, 0, none⟩ = some (.bool t3) ∧ w'.cell? ⟨w.heap.size, 1, none⟩ = some (.slice A3 m3 c3) ∧ w'.cell? ⟨w.heap.size, 2, none⟩ = some (.bool s3) ∧ w'.cell? ⟨w.heap.size, 3, none⟩ = some (.slice B3 j3 d3) ∧ w'.cell? ⟨r9, 2, none⟩ = some (.slice (some ⟨bp, op, none⟩) n cp) ∧ w'.cell? ⟨bp, op + m', none⟩ = some (.int .i64 pj))
                  ((refine (fun hBn => ⟨hBn, cell_below hBn a0, cell_below hBn a1, cell_below hBn a2, cell_below hBn a3, cell_below hBn y2, cell_below hBn pp⟩) ?_; (repeat (first | with_reducible exact HBX.out | with_reducible exact Below.refl _ _ | with_reducible refine bd_alloc ?_ _ | with_reducible refine bd_four ?_ (by simp only [World.size_drew]; omega) | exact below_alloc wr.drew _))))
                  (first
                    | (go_at_call 21; refine (ffrom_calls pj _ ⟨by have := HPB.out; omega, by have := HPB.out; omega⟩).mono ?_; rintro e w6 ⟨hb6, r6, rfl, hr6⟩; obtain ⟨t5, A5, m5, c5, s5, B5, j5, d5, rfl, Z6⟩ := hr6.open; have HBX : Hid (Below wr.drew.heap.size wr.drew w6) := Lib.hid (below_next (‹Below wr.drew.heap.size wr.drew _ ∧ _›).1 hb6); have hs6 := hb6.size; (try simp only [World.size_alloc, World.size_drew] at hs6); (try have x1 := heap_below hb6 (alloc_last (o := (.cells #[.bool false, .slice none 0 0, .bool false, .slice none 0 0] 44 (0, 0))) rfl)); (try simp only [World.size_alloc, World.size_drew] at x1); clear hb6 hr6)
                    | (go_at_call 67; refine (fmin_calls _ _ x (pj : Rat) (k + 2) _ (by exact (HQX.out.drew.below (‹Below wr.drew.heap.size wr.drew _ ∧ _›).1).any) (by first | exact ((Z6.out.qin (fits_int (by have := HPB.out; omega))).any.le (by omega)) | exact (((Z6.out.below (below_alloc _ _)).qin (fits_int (by have := HPB.out; omega))).any.le (by omega))) (by omega) (by omega)).mono ?_; rintro e w7 ⟨hb7, r7, rfl, hr7⟩; obtain ⟨t4, A4, m4, c4, s4, B4, j4, d4, rfl, Z7⟩ := hr7.open; have HBX : Hid (Below wr.drew.heap.size wr.drew w7) := Lib.hid (below_next (‹Below wr.drew.heap.size wr.drew _ ∧ _›).1 hb7); have hs7 := hb7.size; (try simp only [World.size_alloc, World.size_drew] at hs7); (try have x1 := heap_below (by first | exact hb7 | exact below_next (below_alloc _ _) hb7) x1); (try have y1 := heap_below hb7 (alloc_last (o := (.cells #[.bool false, .slice none 0 0, .bool false, .slice none 0 0] 44 (0, 0))) rfl)); (try simp only [World.size_alloc, World.size_drew] at y1); (try have x1c0 := hcell x1 0 rfl); (try have x1f0 := hfree x1 0); (try have x1c1 := hcell x1 1 rfl); (try have x1f1 := hfree x1 1); (try have x1c2 := hcell x1 2 rfl); (try have x1f2 := hfree x1 2); (try have x1c3 := hcell x1 3 rfl); (try have x1f3 := hfree x1 3); (try have y1c0 := hcell y1 0 rfl); (try have y1f0 := hfree y1 0); (try have y1c1 := hcell y1 1 rfl); (try have y1f1 := hfree y1 1); (try have y1c2 := hcell y1 2 rfl); (try have y1f2 := hfree y1 2); (try have y1c3 := hcell y1 3 rfl); (try have y1f3 := hfree y1 3); (try have HX1 := Lib.hid x1); (try have HY1 := Lib.hid y1); (try clear x1); (try clear y1); clear hb7 hr7))
                all_goals
                  refine hK0 _ _ (Met.intro (hJ0 _ _ ?_))
                  (repeat apply Exists.intro)
                  refine ⟨⟨_, t4, A4, m4, c4, s4, B4, j4, d4, rfl, ?_, ?_, ?_, ?_⟩, rfl⟩
                  · (show _ = _; (repeat (first | with_reducible exact HX1.out | with_reducible exact HY1.out | (with_reducible refine alloc_last ?_; simp; done) | with_reducible refine set4h (a := .bool false) (b := .slice none 0 0) (c := .bool false) (d := .slice none 0 0) ?_ | with_reducible refine alloc_elder ?_)))
                  · exact QC.fin Z7.out (by (try simp only [World.size_alloc, World.size_drew]); omega) (fun z0 => by (repeat (first | with_reducible exact z0 | with_reducible refine QC.alloc ?_ _ | with_reducible refine QC.fours ?_ (by (try simp only [World.size_alloc, World.size_drew]); omega))))
                  · (show Below _ _ _; (repeat (first | with_reducible exact HBX.out | with_reducible refine bd_alloc ?_ _ | with_reducible refine bd_four ?_ (by simp only [World.size_drew]; omega))))
                  · (show _ ≤ _; (try simp only [World.size_alloc, World.size_drew, World.size_setCell]); omega)
              case rest =>
                obtain ⟨n11, t4, A4, m4, c4, s4, B4, j4, d4, rfl, G11, HP11, HBC, HN11⟩ := hcut
                have HBC0 := Lib.hid (below_next (below_drew (Below.refl _ _)) HBC.out)
                have HOC := Lib.hid (HO.out.below HBC0.out)
                have HXC := Lib.hid (heap_below HBC0.out HX.out)
                have HQC := Lib.hid (HQX.out.below HBC0.out)
                have GXC := Lib.hid (heap_below HBC0.out GX.out)
                have HSC := Lib.hid HBC0.out.size
                have hmo : m' < os.length := by rw [HL.out]; omega
                obtain ⟨v0, v1, v2, v3, HQO, o0, o1, o2, o3⟩ := HOC.out.cell m' hmo
                have HQO := Lib.hid HQO
                clear a0 a1 a2 a3 y2 pp
                have o0 : wc.drew.cell? ⟨B, m' * 4, none⟩ = some v0 := o0
                have o1 : wc.drew.cell? ⟨B, m' * 4 + 1, none⟩ = some v1 := o1
                have o2 : wc.drew.cell? ⟨B, m' * 4 + 2, none⟩ = some v2 := o2
                have o3 : wc.drew.cell? ⟨B, m' * 4 + 3, none⟩ = some v3 := o3
                have a0 : wc.drew.cell? ⟨n11, 0, none⟩ = some (.bool t4) := hcell (heap_drew G11.out) 0 rfl
                have a1 : wc.drew.cell? ⟨n11, 1, none⟩ = some (.slice A4 m4 c4) := hcell (heap_drew G11.out) 1 rfl
                have a2 : wc.drew.cell? ⟨n11, 2, none⟩ = some (.bool s4) := hcell (heap_drew G11.out) 2 rfl
                have a3 : wc.drew.cell? ⟨n11, 3, none⟩ = some (.slice B4 j4 d4) := hcell (heap_drew G11.out) 3 rfl
                obtain ⟨part, hpart⟩ : ∃ part, part = minQ x (pj : Rat) := ⟨_, rfl⟩
                rw [← hpart] at HP11
                obtain ⟨oj, hoj⟩ : ∃ oj, oj = os[m'] := ⟨_, rfl⟩
                rw [← hoj] at HQO
                have HPART := Lib.hid hpart
                have HOJ := Lib.hid hoj
                have hD0 := HDK.out.1
                have hovp : Ov D 1000000 part := by rw [hpart]; exact HOVX.out.minq hD0 HPB.out.1 (by have := HPB.out.2; omega)
                have hovo : Ov D (1000000 * i') oj := by rw [hoj]; exact (HOS.out m' hmo).1 (by omega)
                have HOVP := Lib.hid hovp
                have HOVO := Lib.hid hovo
                have HFP := Lib.hid (hovp.fits hD0 HDK.out.2 (by decide))
                have HFO := Lib.hid (hovo.fits hD0 HDK.out.2 (by omega))
                clear hpart hoj hovp hovo
                go_wp2_with fail
                go_region_with
                  (first
                    | (go_at_call 25; refine (fadd_calls _ _ oj part (k + 2) _ (by exact ((HQO.out.qin HFO.out).any).drew) (by exact ((HP11.out.qin HFP.out).any).drew) (by omega) (by omega)).mono ?_; rintro e w8 ⟨hb8, r8, rfl, hr8⟩; obtain ⟨t6, A6, m6, c6, s6, B6, j6, d6, rfl, Z8⟩ := hr8.open; have HB8 := Lib.hid (below_next (below_drew (Below.refl _ _)) hb8); obtain ⟨_, hblk⟩ := (HOC.out.below HB8.out).blk; have g0 := hfree hblk (m' * 4); have g1 := hfree hblk (m' * 4 + 1); have g2 := hfree hblk (m' * 4 + 2); have g3 := hfree hblk (m' * 4 + 3); have o0 := cell_below hb8 o0; have o1 := cell_below hb8 o1; have o2 := cell_below hb8 o2; have o3 := cell_below hb8 o3; clear hb8 hr8 hblk))
                all_goals
                  obtain ⟨Wy, hWy⟩ : ∃ Wy, Wy = ((((w8.setCell ⟨B, m' * 4, none⟩ (.bool t6)).setCell ⟨B, m' * 4 + 1, none⟩ (.slice A6 m6 c6)).setCell ⟨B, m' * 4 + 2, none⟩ (.bool s6)).setCell ⟨B, m' * 4 + 3, none⟩ (.slice B6 j6 d6)) := ⟨_, rfl⟩
                  rw [← hWy]
                  have hbw := hBw
                  have hszb := HSZ.out
                  have hn11 := HN11.out
                  have h8 := HB8.out.size
                  have hsc := HSC.out
                  have hwlt : w.heap.size < w8.heap.size := by omega
                  have HOY : Hid (OutQ Wy B (os.set m' (oj + part))) := Lib.hid (by rw [hWy]; exact (HOC.out.below HB8.out).put hmo (Z8.out.mono (by show B + 1 ≤ wc.heap.size; omega)))
                  have hkk : ∀ i, i ≠ B → Wy.heap[i]? = w8.heap[i]? := fun i hi => by rw [hWy]; exact set_far (set_far (set_far (set_far rfl hi) hi) hi) hi
                  have HXY := Lib.hid ((hkk w.heap.size (by omega)).trans (heap_below HB8.out HXC.out))
                  have H11Y := Lib.hid ((hkk n11 (by omega)).trans (heap_below HB8.out G11.out))
                  have GXY := Lib.hid ((hkk r9 (by have := HR9.out; omega)).trans (heap_below HB8.out GXC.out))
                  have HQY : Hid (QIn (fun b _ => b < w.heap.size ∨ B + 1 ≤ b) Wy (.agg #[.bool t3, .slice A3 m3 c3, .bool s3, .slice B3 j3 d3]) x (k + 2)) := Lib.hid (by rw [hWy]; obtain ⟨x', y', hq1, hq2⟩ := HQC.out.below HB8.out; exact ⟨x', y', hq1.keepB (by intro o h; rcases h with h | h <;> omega), hq2⟩)
                  have HPY : Hid (QC (B + 1) Wy (.agg #[.bool t4, .slice A4 m4 c4, .bool s4, .slice B4 j4 d4]) part) := Lib.hid ((HP11.out.below HB8.out).kept (fun i hi _ => hkk i (by omega)) (Nat.le_refl _))
                  have HBY : Hid (Below w.heap.size w Wy) := Lib.hid (by rw [hWy]; exact ((((below_next (below_next (below_next HBW.out HBC0.out) HB8.out) (Below.refl _ _)).setCell (p := ⟨B, m' * 4, none⟩) (by show w.heap.size ≤ B; omega) _).setCell (p := ⟨B, m' * 4 + 1, none⟩) (by show w.heap.size ≤ B; omega) _).setCell (p := ⟨B, m' * 4 + 2, none⟩) (by show w.heap.size ≤ B; omega) _).setCell (p := ⟨B, m' * 4 + 3, none⟩) (by show w.heap.size ≤ B; omega) _)
                  have HSY : Hid (B + 1 ≤ Wy.heap.size) := Lib.hid (by rw [hWy]; simp only [World.size_setCell]; omega)
                  have a0 : Wy.cell? ⟨w.heap.size, 0, none⟩ = some (.bool t3) := hcell HXY.out 0 rfl
                  have a1 : Wy.cell? ⟨w.heap.size, 1, none⟩ = some (.slice A3 m3 c3) := hcell HXY.out 1 rfl
                  have a2 : Wy.cell? ⟨w.heap.size, 2, none⟩ = some (.bool s3) := hcell HXY.out 2 rfl
                  have a3 : Wy.cell? ⟨w.heap.size, 3, none⟩ = some (.slice B3 j3 d3) := hcell HXY.out 3 rfl
                  have b0 : Wy.cell? ⟨n11, 0, none⟩ = some (.bool t4) := hcell H11Y.out 0 rfl
                  have b1 : Wy.cell? ⟨n11, 1, none⟩ = some (.slice A4 m4 c4) := hcell H11Y.out 1 rfl
                  have b2 : Wy.cell? ⟨n11, 2, none⟩ = some (.bool s4) := hcell H11Y.out 2 rfl
                  have b3 : Wy.cell? ⟨n11, 3, none⟩ = some (.slice B4 j4 d4) := hcell H11Y.out 3 rfl
                  clear o0 o1 o2 o3 g0 g1 g2 g3 hbw hszb hn11 h8 hsc hwlt hkk hWy
                  go_wp2_with fail
                  refine (fsub_calls _ _ x part (k + 2) _ HQY.out.any ((HPY.out.qin HFP.out).any) (by omega) (by omega)).mono ?_
                  rintro e wz ⟨hbz, rz, rfl, hrz⟩
                  obtain ⟨t7, A7, m7, c7, s7, B7, j7, d7, rfl, ZZ⟩ := hrz.open
                  have HBZ := Lib.hid hbz
                  have gz := heap_below hbz HXY.out
                  have e0 : wz.cell? ⟨w.heap.size, 0, none⟩ = some (.bool t3) := hcell gz 0 rfl
                  have e1 : wz.cell? ⟨w.heap.size, 1, none⟩ = some (.slice A3 m3 c3) := hcell gz 1 rfl
                  have e2 : wz.cell? ⟨w.heap.size, 2, none⟩ = some (.bool s3) := hcell gz 2 rfl
                  have e3 : wz.cell? ⟨w.heap.size, 3, none⟩ = some (.slice B3 j3 d3) := hcell gz 3 rfl
                  have fz0 := hfree gz 0
                  have fz1 := hfree gz 1
                  have fz2 := hfree gz 2
                  have fz3 := hfree gz 3
                  have GZ := Lib.hid gz
                  have hwm : IntKind.i64.wrap ((m' : Int) - 1) = (m' : Int) - 1 := IntWalk.i64_in _ ⟨by omega, by omega⟩
                  clear hbz hrz gz a0 a1 a2 a3 b0 b1 b2 b3
                  go_wp2
                  go_roundw
                  case rel =>
                    have hdo : doOne l m' (os, x) = (os.set m' (oj + part), x - part) := by
                      unfold doOne
                      simp only
                      rw [List.getElem?_eq_getElem hml, List.getElem?_eq_getElem hmo]
                      simp only [Option.getD_some]
                      rw [← HPJ.out, ← HPART.out, ← HOJ.out]
                    have hsy := HSY.out
                    have hzs := HBZ.out.size
                    have hD0 := HDK.out.1
                    have hle : part ≤ x := by rw [HPART.out]; exact minQ_le_left _ _
                    refine ⟨m', _, os.set m' (oj + part), x - part, t7, A7, m7, c7, s7, B7, j7, d7, by omega, rfl, rfl, (HOY.out.below HBZ.out).far hBw, by show _ = _; rw [List.length_set]; exact HL.out, set4h GZ.out, ?_, HOVX.out.sub hD0 HOVP.out hle, ?_, by show _ = _; rw [← hdo]; exact HSH.out, far4h (by have := HR9.out; omega) (heap_below HBZ.out GXY.out), four_stores (below_next HBY.out HBZ.out) (Nat.le_refl _), by unfold Hid; simp only [World.size_setCell]; omega⟩
                    · have hfit : Fits (x - part) (k + 2) := (HOVX.out.sub hD0 HOVP.out hle).fits hD0 HDK.out.2 (by decide)
                      exact ((((ZZ.out.mono (show B + 1 ≤ _ from hsy)).fours (n0 := w.heap.size) (by omega)).qin hfit).mono (fun b o h => .inr h.1))
                    · intro j hj
                      rw [List.length_set] at hj
                      rw [List.getElem_set]
                      by_cases hjm : m' = j
                      · rw [if_pos hjm]
                        refine ⟨fun h => absurd h (by omega), ?_⟩
                        have := HOVO.out.add hD0 HOVP.out
                        exact this.mono (by omega)
                      · rw [if_neg hjm]
                        exact ⟨fun h => (HOS.out j hj).1 (by omega), (HOS.out j hj).2⟩
                  case measure => simp [intOf] <;> omega
        · obtain rfl : i' = s.length := by omega
          have hfin : shareQ s q = os := by
            have h1 := HSH.out
            rw [List.drop_length] at h1
            unfold shareQ
            rw [← HN.out, ← h1]
            rfl
          have HFIN := Lib.hid hfin
          clear hfin
          go_wp2
          refine bodyPost_ret (v := .tuple #[.slice (some ⟨B, 0, none⟩) n n, .int .i64 0]) (by simp [results, Tryz.results41, go_sem]) rfl ?_
          rw [HE.out, HFIN.out]
          have hrow := HO.out.row (n := w.heap.size) (by omega) (by rw [HL.out]; exact hn16)
          rw [HL.out] at hrow
          exact ⟨HBW.out, _, rfl, hrow⟩
  · have HE : Hid (shareR s q = ([], d)) := Lib.hid (by unfold shareR; rw [if_neg (hd ▸ h0), hd])
    have hf : (d == 0) = false := by rw [beq_eq_false_iff_ne]; exact h0
    clear hd h0
    go_wp2
    refine bodyPost_ret (v := .tuple #[.slice none 0 0, .int .i64 d]) (by simp [results, Tryz.results41, go_sem]) rfl ?_
    rw [HE.out]
    exact ⟨HB1.out, _, rfl, Row.nil 0 none (fun _ => rfl)⟩
#print axioms share_calls
end Go.Proofs.YtlaemhigmgmgjaaGreat
/- stack: Cost: what it returns. No condition beyond sizes. (Printed by tools/cost.py.) -/
namespace Go.Proofs.YtlaemhigmgmgjaaGreat
set_option linter.unusedVariables false
set_option linter.unusedSimpArgs false
open Go.RowKit

/-- a/D with |a| ≤ M * D. -/
def Os (D M : Nat) (x : Rat) : Prop := ∃ a : Int, x = Rat.divInt a D ∧ a ≤ M * D ∧ -(M * D : Int) ≤ a
theorem Os.fits {D M : Nat} {x : Rat} {k : Nat} (h : Os D M x) (hD : 0 < D) (hk : D < 4294967296 ^ k) (hM : M < 4294967296 * 4294967296) : Fits x (k + 2) := by
  obtain ⟨a, hx, h1, h0⟩ := h
  obtain ⟨m, hm, hn, hd⟩ := Rat.divInt_num_den (n' := x.num) (d' := x.den) (z' := x.den_nz) (c := x.reduced) (show (D : Int) ≠ 0 by omega) hx.symm
  have hm0 : 0 < m := by
    have h2 : (0 : Int) < (x.den : Int) := by have := x.den_pos; omega
    have h3 : (0 : Int) < (x.den : Int) * m := by rw [← hd]; omega
    rcases Int.lt_trichotomy m 0 with h4 | h4 | h4
    · have := Int.mul_neg_of_pos_of_neg h2 h4
      omega
    · exact absurd h4 hm
    · exact h4
  have hden : x.den ≤ D := by
    have : (x.den : Int) * 1 ≤ (x.den : Int) * m := Int.mul_le_mul_of_nonneg_left (by omega) (by omega)
    omega
  have hnum : (x.num.natAbs : Int) ≤ M * D := by
    have h3 : x.num.natAbs * 1 ≤ x.num.natAbs * m.natAbs := Nat.mul_le_mul_left _ (by omega)
    rw [← Int.natAbs_mul, ← hn] at h3
    omega
  have hpos : 0 < 4294967296 ^ k := Nat.pow_pos (by decide)
  have e2 : 4294967296 ^ (k + 2) = 4294967296 ^ k * (4294967296 * 4294967296) := by rw [Nat.pow_succ, Nat.pow_succ, Nat.mul_assoc]
  constructor
  · refine dig_length_le ?_
    have h5 : x.num.natAbs ≤ M * D := by
      have h7 : ((M * D : Nat) : Int) = (M : Int) * D := by simp
      omega
    have h6 : M * D ≤ M * 4294967296 ^ k := Nat.mul_le_mul_left _ (Nat.le_of_lt hk)
    have h7 : M * 4294967296 ^ k < (4294967296 * 4294967296) * 4294967296 ^ k := Nat.mul_lt_mul_of_pos_right hM hpos
    rw [e2, Nat.mul_comm (4294967296 ^ k)]
    omega
  · refine dig_length_le ?_
    rw [e2]
    have : 4294967296 ^ k * 1 ≤ 4294967296 ^ k * (4294967296 * 4294967296) := Nat.mul_le_mul_left _ (by decide)
    omega
theorem Os.add {D M N : Nat} {x y : Rat} (hD : 0 < D) (h : Os D M x) (k : Os D N y) : Os D (M + N) (x + y) := by
  obtain ⟨a, rfl, h1, h0⟩ := h
  obtain ⟨b, rfl, k1, k0⟩ := k
  have e : ((M + N : Nat) : Int) * D = M * D + N * D := by simp [Int.add_mul]
  refine ⟨a + b, ?_, by omega, by omega⟩
  rw [Rat.divInt_add_divInt _ _ (by omega) (by omega), ← Int.add_mul, Rat.divInt_mul_right (by omega)]
theorem Ov.mul_int {D M N : Nat} {x : Rat} {p : Int} (hD : 0 < D) (h : Ov D M x) (h0 : -(N : Int) ≤ p) (h1 : p ≤ N) : Os D (M * N) (x * (p : Rat)) := by
  obtain ⟨a, rfl, g0, g1⟩ := h
  refine ⟨a * p, ?_, ?_, ?_⟩
  · rw [← divInt_one p, Rat.divInt_mul_divInt, Int.mul_one]
  · have e : ((M * N : Nat) : Int) * D = (M * D : Int) * N := by simp [Int.mul_assoc, Int.mul_comm]
    have h3 : a * p ≤ a * N := Int.mul_le_mul_of_nonneg_left h1 g0
    have h4 : a * N ≤ (M * D : Int) * N := Int.mul_le_mul_of_nonneg_right g1 (by omega)
    omega
  · have e : ((M * N : Nat) : Int) * D = (M * D : Int) * N := by simp [Int.mul_assoc, Int.mul_comm]
    have h3 : a * (-(N : Int)) ≤ a * p := Int.mul_le_mul_of_nonneg_left h0 g0
    have h4 : a * N ≤ (M * D : Int) * N := Int.mul_le_mul_of_nonneg_right g1 (by omega)
    have h5 : a * (-(N : Int)) = -(a * N) := by rw [Int.mul_neg]
    omega
theorem Os.mono {D M N : Nat} {x : Rat} (h : Os D M x) (hM : M ≤ N) : Os D N x := by
  obtain ⟨a, rfl, h1, h0⟩ := h
  have : (M : Int) * D ≤ N * D := Int.mul_le_mul_of_nonneg_right (by omega) (by omega)
  exact ⟨a, rfl, by omega, by omega⟩
theorem Os.zero (D M : Nat) : Os D M 0 := ⟨0, by simp, by have : (0 : Int) ≤ M * D := Int.mul_nonneg (by omega) (by omega); omega, by have : (0 : Int) ≤ M * D := Int.mul_nonneg (by omega) (by omega); omega⟩
theorem Row.empty {α : Type} {K : Kd α} {ok ok' : Nat → Option Obj → Prop} {w w' : World} {v : Value} {l : List α} (h : Row K ok w v l) (hl : l = []) : Row K ok' w' v l := by
  subst hl
  obtain ⟨A, c, hv, hc, hm, _⟩ := h
  exact ⟨A, c, hv, hc, hm, fun h => absurd h (by simp)⟩
theorem QC.zero_any {n m : Nat} {w w' : World} {v : Value} (h : QC n w v 0) : QC m w' v 0 := by
  obtain ⟨A, c, B, d, hv, r1, r2⟩ := h
  exact ⟨A, c, B, d, hv, r1.empty (by simp [dig_zero]), r2.empty (by simp [dig_zero])⟩
def costR (s : List Lv) (q : Rat) : Rat × Int := if wrongE s q = 0 then (costQ s q, 0) else (0, wrongE s q)
theorem fit_le {x : Rat} {k m : Nat} (h : Fits x k) (hm : k ≤ m) : Fits x m := ⟨Nat.le_trans h.1 hm, Nat.le_trans h.2 hm⟩

set_option maxRecDepth 100000 in
set_option maxHeartbeats 8000000 in
theorem cost_calls (ok : Nat → Option Obj → Prop) (A : Option Addr) (nn c : Nat) (s : List Lv) (u : Value) (q : Rat) (k : Nat) (w : World) (h : Row Kd.level ok w (.slice A nn c) s) (hu : QIn (fun _ _ => True) w u q k) (hk : k ≤ 10000000) (hk1 : 1 ≤ k) (hq : 0 ≤ q) :
    Calls Tryz.prog 43 #[.slice A nn c, u] w fun e w' => Below w.heap.size w w' ∧ ∃ v, e = .returned (.tuple #[v, .int .i64 (costR s q).2]) ∧ QC w.heap.size w' v (costR s q).1 := by
  obtain rfl := h.len
  obtain ⟨t0, A0, m0, c0, s0, B0, j0, d0, rfl, HU⟩ := hu.form
  obtain ⟨W, hW, g0, gr, hB, hs⟩ := two_boxes w (.cells #[.bool t0, .slice A0 m0 c0, .bool s0, .slice B0 j0 d0] 44) (.cells #[.bool false, .slice none 0 0, .bool false, .slice none 0 0] 44)
  have a0 : W.cell? ⟨w.heap.size, 0, none⟩ = some (.bool t0) := hcell g0 0 rfl
  have a1 : W.cell? ⟨w.heap.size, 1, none⟩ = some (.slice A0 m0 c0) := hcell g0 1 rfl
  have a2 : W.cell? ⟨w.heap.size, 2, none⟩ = some (.bool s0) := hcell g0 2 rfl
  have a3 : W.cell? ⟨w.heap.size, 3, none⟩ = some (.slice B0 j0 d0) := hcell g0 3 rfl
  have G0 := Lib.hid g0
  have GR0 := Lib.hid gr
  have HB := Lib.hid hB
  have HS := Lib.hid hs
  have HR := Lib.hid h
  have HQ0 := Lib.hid hq
  clear g0 gr hB hs hu h hq
  go_enter Tryz.func43, Tryz.ntmps43
  go_wp2_with fail
  clear hW
  refine (wrong_calls ok _ _ _ s _ q k _ (HR.out.below HB.out) (HU.out.below HB.out) (by omega) hk1 HQ0.out).mono ?_
  rintro e w1 ⟨hb1, rfl⟩
  have HB1 := Lib.hid (below_next HB.out hb1)
  have G1 := Lib.hid (heap_below hb1 G0.out)
  have GR1 := Lib.hid (heap_below hb1 GR0.out)
  have HS1 := Lib.hid hb1.size
  have gr1 := heap_below hb1 GR0.out
  have z0 : w1.cell? ⟨w.heap.size + 1, 0, none⟩ = some (.bool false) := hcell gr1 0 rfl
  have z1 : w1.cell? ⟨w.heap.size + 1, 1, none⟩ = some (.slice none 0 0) := hcell gr1 1 rfl
  have z2 : w1.cell? ⟨w.heap.size + 1, 2, none⟩ = some (.bool false) := hcell gr1 2 rfl
  have z3 : w1.cell? ⟨w.heap.size + 1, 3, none⟩ = some (.slice none 0 0) := hcell gr1 3 rfl
  have f0 := hfree gr1 0
  have f1 := hfree gr1 1
  have f2 := hfree gr1 2
  have f3 := hfree gr1 3
  obtain ⟨d, hd⟩ : ∃ d, d = wrongE s q := ⟨_, rfl⟩
  rw [← hd]
  clear hb1 a0 a1 a2 a3 gr1
  by_cases h0 : d = 0
  · have HE : Hid (costR s q = (costQ s q, 0)) := Lib.hid (by unfold costR; rw [if_pos (hd ▸ h0)])
    have hw := wrong_ok (hd ▸ h0)
    have HW := Lib.hid hw
    have hok := check_ok hw.1
    have HOK := Lib.hid hok
    have hs48 : s.length ≤ 48 := hok.1
    clear hd hw hok z0 z1 z2 z3 f0 f1 f2 f3
    subst h0
    go_wp2_with fail
    refine (ffrom_calls 0 _ ⟨by decide, by decide⟩).mono ?_
    rintro e w2 ⟨hb2, r2, rfl, hr2⟩
    obtain ⟨t1, A1, m1, c1, s1, B1, j1, d1, rfl, Z2⟩ := hr2.open
    obtain ⟨W2, hW2, g2, hB2, hs2⟩ := one_box w2 (.cells #[.bool t1, .slice A1 m1 c1, .bool s1, .slice B1 j1 d1] 44 (0, 0))
    obtain ⟨B, hBd⟩ : ∃ B, B = w2.heap.size := ⟨_, rfl⟩
    have hBw : w.heap.size + 1 < B := by have h1 := HS.out; have h2 := HS1.out; have h3 := hb2.size; omega
    rw [← hBd] at g2 hs2
    have HBW2 := Lib.hid (below_next (below_next HB1.out hb2) hB2)
    have G2 := Lib.hid (heap_below hB2 (heap_below hb2 G1.out))
    have GR2 := Lib.hid (heap_below hB2 (heap_below hb2 GR1.out))
    have GS2 := Lib.hid g2
    have Z2' : Hid (QC (B + 1) W2 (.agg #[.bool t1, .slice A1 m1 c1, .bool s1, .slice B1 j1 d1]) 0) := Lib.hid (QC.zero_any (by have h1 := Z2.out; simpa using h1))
    obtain ⟨D, hD⟩ : ∃ D, D = q.den := ⟨_, rfl⟩
    have HDK : Hid (0 < D ∧ D < 4294967296 ^ (k + 1)) := Lib.hid ⟨hD ▸ q.den_pos, hD ▸ den_lt HU.out⟩
    have HOV : Hid (Ov D 768000000 q) := Lib.hid (by
      have h1 := totalE_le s
      rw [hD]
      exact (Ov.self HQ0.out HW.out.2.2).mono (by omega))
    have HQB : Hid (QIn (fun b _ => b < w.heap.size ∨ B + 1 ≤ b) W2 (.agg #[.bool t0, .slice A0 m0 c0, .bool s0, .slice B0 j0 d0]) q (k + 3)) := Lib.hid ((((HU.out.held).mono (fun _ _ h => .inl h.2)).below HBW2.out).le (by omega))
    have HSZ2 : Hid (B + 1 ≤ W2.heap.size) := Lib.hid (by omega)
    clear hb2 hr2 g2 hB2 hs2 hD
    go_wp2_with fail
    rw [← hBd]
    clear hW2 hBd
    go_loopw [21] (fun i wr => ∃ (i' : Nat) (x y : Rat) (t2 : Bool) (A2 : Option Addr) (m2 c2 : Nat) (s2 : Bool) (B2 : Option Addr) (j2 d2 : Nat) (t8 : Bool) (A8 : Option Addr) (m8 c8 : Nat) (s8 : Bool) (B8 : Option Addr) (j8 d8 : Nat), i' ≤ s.length ∧ i = .int .i64 i' ∧ Hid (wr.heap[w.heap.size]? = some (.cells #[.bool t2, .slice A2 m2 c2, .bool s2, .slice B2 j2 d2] 44 (0, 0))) ∧ Hid (QIn (fun b _ => b < w.heap.size ∨ B + 1 ≤ b) wr (.agg #[.bool t2, .slice A2 m2 c2, .bool s2, .slice B2 j2 d2]) x (k + 3)) ∧ Hid (Ov D 768000000 x) ∧ Hid (wr.heap[B]? = some (.cells #[.bool t8, .slice A8 m8 c8, .bool s8, .slice B8 j8 d8] 44 (0, 0))) ∧ Hid (QC (B + 1) wr (.agg #[.bool t8, .slice A8 m8 c8, .bool s8, .slice B8 j8 d8]) y) ∧ Hid (wr.heap[w.heap.size + 1]? = some (.cells #[.bool false, .slice none 0 0, .bool false, .slice none 0 0] 44 (0, 0))) ∧ Hid (Os D (16000000000000 * i') y) ∧ Hid (costSt (s.drop i') (y, x) = costSt s (0, q)) ∧ Hid (Below w.heap.size w wr) ∧ Hid (B + 1 ≤ wr.heap.size))
      (fun i _ => s.length - (intOf i).toNat)
    case atStart =>
      exact ⟨0, q, 0, t0, A0, m0, c0, s0, B0, j0, d0, t1, A1, m1, c1, s1, B1, j1, d1, Nat.zero_le _, rfl, G2.out, HQB.out, HOV.out, GS2.out, Z2'.out, GR2.out, Os.zero _ _, rfl, HBW2.out, HSZ2.out⟩
    case round =>
      obtain ⟨i', x, y, t2, A2, m2, c2, s2, B2, j2, d2, t8, A8, m8, c8, s8, B8, j8, d8, hi', rfl, HX, HQX, HOVX, HSM, HSQ, HRS, HOY, HSH, HBW, HSZ⟩ := hrel
      by_cases hlt : i' < s.length
      · obtain ⟨b, off, Ap, cp, rfl, y0, y1, y2, ip, iq, _⟩ := level_cell (HR.out.below HBW.out) hlt
        obtain ⟨⟨p, qq, l⟩, hxd⟩ : ∃ z, z = lvAt s i' := ⟨_, rfl⟩
        rw [← hxd] at y0 y1 y2 ip iq
        simp only at y0 y1 y2 ip iq
        have hlo := HOK.out.2 (p, qq, l) (by rw [hxd, lvAt_eq hlt]; exact List.getElem_mem _)
        have hdrop : s.drop i' = (p, qq, l) :: s.drop (i' + 1) := by rw [List.drop_eq_getElem_cons hlt, hxd, lvAt_eq hlt]
        have HSH1 : Hid (costSt (s.drop (i' + 1)) (y + minQ x (qq : Rat) * (p : Rat), x - minQ x (qq : Rat)) = costSt s (0, q)) := Lib.hid (by
          rw [← HSH.out, hdrop]
          rfl)
        have HLO : Hid (-1000000 ≤ p ∧ p ≤ 1000000 ∧ 0 < qq ∧ qq ≤ 16000000) := Lib.hid ⟨hlo.lo, hlo.hi, hlo.pos, hlo.top⟩
        clear hxd hlo hdrop ip iq
        obtain ⟨wx, hWx, gx, hBx, hsx⟩ := one_box wr (.cells #[.int .i64 p, .int .i64 qq, .slice Ap l.length cp] 105)
        obtain ⟨r9, hr9⟩ : ∃ r9, r9 = wr.heap.size := ⟨_, rfl⟩
        have HR9 : Hid (B + 1 ≤ r9) := Lib.hid (hr9 ▸ HSZ.out)
        rw [← hr9] at gx hsx
        have GX := Lib.hid gx
        have HBX0 := Lib.hid (below_next HBW.out hBx)
        have HXX := Lib.hid (heap_below hBx HX.out)
        have HQXX := Lib.hid (HQX.out.below hBx)
        have HSMX := Lib.hid (heap_below hBx HSM.out)
        have HSQX := Lib.hid (HSQ.out.below hBx)
        have HRSX := Lib.hid (heap_below hBx HRS.out)
        have HSX := Lib.hid hsx
        clear gx hBx hsx
        go_upto_region 8 with fail
        clear hWx
        rw [← hr9]
        clear hr9 y0 y1 y2
        have a0 : wx.drew.cell? ⟨w.heap.size, 0, none⟩ = some (.bool t2) := hcell (heap_drew HXX.out) 0 rfl
        have a1 : wx.drew.cell? ⟨w.heap.size, 1, none⟩ = some (.slice A2 m2 c2) := hcell (heap_drew HXX.out) 1 rfl
        have a2 : wx.drew.cell? ⟨w.heap.size, 2, none⟩ = some (.bool s2) := hcell (heap_drew HXX.out) 2 rfl
        have a3 : wx.drew.cell? ⟨w.heap.size, 3, none⟩ = some (.slice B2 j2 d2) := hcell (heap_drew HXX.out) 3 rfl
        have yq : wx.drew.cell? ⟨r9, 1, none⟩ = some (.int .i64 qq) := hcell (heap_drew GX.out) 1 rfl
        go_cut [10] (fun s10 wc => ∃ (n10 : Nat) (t4 : Bool) (A4 : Option Addr) (m4 c4 : Nat) (s4 : Bool) (B4 : Option Addr) (j4 d4 : Nat), s10 = .pointer (some ⟨n10, 0, none⟩) ∧ Hid (wc.heap[n10]? = some (.cells #[.bool t4, .slice A4 m4 c4, .bool s4, .slice B4 j4 d4] 44 (0, 0))) ∧ Hid (QC (B + 1) wc (.agg #[.bool t4, .slice A4 m4 c4, .bool s4, .slice B4 j4 d4]) (minQ x (qq : Rat))) ∧ Hid (Below wx.drew.heap.size wx.drew wc) ∧ Hid (wx.heap.size ≤ n10))
        case first J0 K0 hJ0 hK0 =>
          have hsz : B + 1 ≤ wx.heap.size := by have h1 := HSX.out; have h2 := HR9.out; omega
          go_region_held3 (fun w' => Below wx.drew.heap.size wx.drew w' ∧ w'.cell? ⟨w.heap.size, 0, none⟩ = some (.bool t2) ∧ w'.cell? ⟨w.heap.size, 1, none⟩ = some (.slice A2 m2 c2) ∧ w'.cell? ⟨w.heap.size, 2, none⟩ = some (.bool s2) ∧ w'.cell? ⟨w.heap.size, 3, none⟩ = some (.slice B2 j2 d2) ∧ w'.cell? ⟨r9, 1, none⟩ = some (.int .i64 qq))
            ((refine (fun hBn => ⟨hBn, cell_below hBn a0, cell_below hBn a1, cell_below hBn a2, cell_below hBn a3, cell_below hBn yq⟩) ?_; (repeat (first | with_reducible exact HBX.out | with_reducible exact Below.refl _ _ | with_reducible refine bd_alloc ?_ _ | with_reducible refine bd_four ?_ (by simp only [World.size_drew]; omega) | exact below_alloc wx.drew _))))
            (first
              | (go_at_call 21; refine (ffrom_calls qq _ ⟨by have := HLO.out; omega, by have := HLO.out; omega⟩).mono ?_; rintro e w6 ⟨hb6, r6, rfl, hr6⟩; obtain ⟨t5, A5, m5, c5, s5, B5, j5, d5, rfl, Z6⟩ := hr6.open; have HBX : Hid (Below wx.drew.heap.size wx.drew w6) := Lib.hid (below_next (‹Below wx.drew.heap.size wx.drew _ ∧ _›).1 hb6); have hs6 := hb6.size; (try simp only [World.size_alloc, World.size_drew] at hs6); (try have x1 := heap_below hb6 (alloc_last (o := (.cells #[.bool false, .slice none 0 0, .bool false, .slice none 0 0] 44 (0, 0))) rfl)); (try simp only [World.size_alloc, World.size_drew] at x1); clear hb6 hr6)
              | (go_at_call 67; refine (fmin_calls _ _ x (qq : Rat) (k + 3) _ (by exact (HQXX.out.drew.below (‹Below wx.drew.heap.size wx.drew _ ∧ _›).1).any) (by first | exact ((Z6.out.qin (fits_int (by have := HLO.out; omega))).any.le (by omega)) | exact (((Z6.out.below (below_alloc _ _)).qin (fits_int (by have := HLO.out; omega))).any.le (by omega))) (by omega) (by omega)).mono ?_; rintro e w7 ⟨hb7, r7, rfl, hr7⟩; obtain ⟨t4, A4, m4, c4, s4, B4, j4, d4, rfl, Z7⟩ := hr7.open; have HBX : Hid (Below wx.drew.heap.size wx.drew w7) := Lib.hid (below_next (‹Below wx.drew.heap.size wx.drew _ ∧ _›).1 hb7); have hs7 := hb7.size; (try simp only [World.size_alloc, World.size_drew] at hs7); (try have x1 := heap_below (by first | exact hb7 | exact below_next (below_alloc _ _) hb7) x1); (try have y1 := heap_below hb7 (alloc_last (o := (.cells #[.bool false, .slice none 0 0, .bool false, .slice none 0 0] 44 (0, 0))) rfl)); (try simp only [World.size_alloc, World.size_drew] at y1); (try have x1c0 := hcell x1 0 rfl); (try have x1f0 := hfree x1 0); (try have x1c1 := hcell x1 1 rfl); (try have x1f1 := hfree x1 1); (try have x1c2 := hcell x1 2 rfl); (try have x1f2 := hfree x1 2); (try have x1c3 := hcell x1 3 rfl); (try have x1f3 := hfree x1 3); (try have y1c0 := hcell y1 0 rfl); (try have y1f0 := hfree y1 0); (try have y1c1 := hcell y1 1 rfl); (try have y1f1 := hfree y1 1); (try have y1c2 := hcell y1 2 rfl); (try have y1f2 := hfree y1 2); (try have y1c3 := hcell y1 3 rfl); (try have y1f3 := hfree y1 3); (try have HX1 := Lib.hid x1); (try have HY1 := Lib.hid y1); (try clear x1); (try clear y1); clear hb7 hr7))
          all_goals
            refine hK0 _ _ (Met.intro (hJ0 _ _ ?_))
            (repeat apply Exists.intro)
            refine ⟨⟨_, t4, A4, m4, c4, s4, B4, j4, d4, rfl, ?_, ?_, ?_, ?_⟩, rfl⟩
            · (show _ = _; (repeat (first | with_reducible exact HX1.out | with_reducible exact HY1.out | (with_reducible refine alloc_last ?_; simp; done) | with_reducible refine set4h (a := .bool false) (b := .slice none 0 0) (c := .bool false) (d := .slice none 0 0) ?_ | with_reducible refine alloc_elder ?_)))
            · exact QC.fin Z7.out (by (try simp only [World.size_alloc, World.size_drew]); omega) (fun z0 => by (repeat (first | with_reducible exact z0 | with_reducible refine QC.alloc ?_ _ | with_reducible refine QC.fours ?_ (by (try simp only [World.size_alloc, World.size_drew]); omega))))
            · (show Below _ _ _; (repeat (first | with_reducible exact HBX.out | with_reducible refine bd_alloc ?_ _ | with_reducible refine bd_four ?_ (by simp only [World.size_drew]; omega))))
            · (show _ ≤ _; (try simp only [World.size_alloc, World.size_drew, World.size_setCell]); omega)
        case rest =>
          obtain ⟨n10, t4, A4, m4, c4, s4, B4, j4, d4, rfl, G10, HP10, HBC, HN10⟩ := hcut
          have HBC0 := Lib.hid (below_next (below_drew (Below.refl _ _)) HBC.out)
          have HXC := Lib.hid (heap_below HBC0.out HXX.out)
          have HQC := Lib.hid (HQXX.out.below HBC0.out)
          have HSMC := Lib.hid (heap_below HBC0.out HSMX.out)
          have HSQC := Lib.hid (HSQX.out.below HBC0.out)
          have HRSC := Lib.hid (heap_below HBC0.out HRSX.out)
          have GXC := Lib.hid (heap_below HBC0.out GX.out)
          have HSC := Lib.hid HBC0.out.size
          clear a0 a1 a2 a3 yq
          have a0 : wc.drew.cell? ⟨n10, 0, none⟩ = some (.bool t4) := hcell (heap_drew G10.out) 0 rfl
          have a1 : wc.drew.cell? ⟨n10, 1, none⟩ = some (.slice A4 m4 c4) := hcell (heap_drew G10.out) 1 rfl
          have a2 : wc.drew.cell? ⟨n10, 2, none⟩ = some (.bool s4) := hcell (heap_drew G10.out) 2 rfl
          have a3 : wc.drew.cell? ⟨n10, 3, none⟩ = some (.slice B4 j4 d4) := hcell (heap_drew G10.out) 3 rfl
          have b0 : wc.drew.cell? ⟨B, 0, none⟩ = some (.bool t8) := hcell (heap_drew HSMC.out) 0 rfl
          have b1 : wc.drew.cell? ⟨B, 1, none⟩ = some (.slice A8 m8 c8) := hcell (heap_drew HSMC.out) 1 rfl
          have b2 : wc.drew.cell? ⟨B, 2, none⟩ = some (.bool s8) := hcell (heap_drew HSMC.out) 2 rfl
          have b3 : wc.drew.cell? ⟨B, 3, none⟩ = some (.slice B8 j8 d8) := hcell (heap_drew HSMC.out) 3 rfl
          have yp : wc.drew.cell? ⟨r9, 0, none⟩ = some (.int .i64 p) := hcell (heap_drew GXC.out) 0 rfl
          obtain ⟨part, hpart⟩ : ∃ part, part = minQ x (qq : Rat) := ⟨_, rfl⟩
          rw [← hpart] at HP10 HSH1
          have HPART := Lib.hid hpart
          have hD0 := HDK.out.1
          have hovp : Ov D 16000000 part := by rw [hpart]; exact HOVX.out.minq hD0 (by have := HLO.out; omega) (by have := HLO.out; omega)
          have HOVP := Lib.hid hovp
          have hosp := hovp.mul_int (N := 1000000) (p := p) hD0 (by have := HLO.out; omega) (by have := HLO.out; omega)
          have HOSP := Lib.hid hosp
          have HFP : Hid (Fits part (k + 3)) := Lib.hid (fit_le (hovp.fits hD0 HDK.out.2 (by decide)) (by omega))
          have HFY : Hid (Fits y (k + 3)) := Lib.hid (HOY.out.fits hD0 HDK.out.2 (by omega))
          have HFM : Hid (Fits (part * (p : Rat)) (k + 3)) := Lib.hid (hosp.fits hD0 HDK.out.2 (by decide))
          have hne1 : ¬ B = n10 := by have h1 := HN10.out; have h2 := HSX.out; have h3 := HR9.out; omega
          have hne2 : ¬ B = r9 := by have h3 := HR9.out; omega
          clear hpart hovp hosp
          go_wp2_with fail
          go_region_with
            (first
              | (go_at_call 21; refine (ffrom_calls p _ ⟨by have := HLO.out; omega, by have := HLO.out; omega⟩).mono ?_; rintro e w5 ⟨hb5, r5, rfl, hr5⟩; obtain ⟨t5, A5, m5, c5, s5, B5, j5, d5, rfl, Z5⟩ := hr5.open; have a0 := cell_below hb5 a0; have a1 := cell_below hb5 a1; have a2 := cell_below hb5 a2; have a3 := cell_below hb5 a3; have b0 := cell_below hb5 b0; have b1 := cell_below hb5 b1; have b2 := cell_below hb5 b2; have b3 := cell_below hb5 b3; have yp := cell_below hb5 yp; have HB5 := Lib.hid hb5; clear hb5 hr5)
              | (go_at_call 26; refine (fmul_calls _ _ part (p : Rat) (k + 3) _ (by exact ((HP10.out.qin HFP.out).any).drew.below HB5.out) (by exact ((Z5.out.qin (fits_int (by have := HLO.out; omega))).any.le (by omega))) (by omega) (by omega)).mono ?_; rintro e w6 ⟨hb6, r6, rfl, hr6⟩; obtain ⟨t6, A6, m6, c6, s6, B6, j6, d6, rfl, Z6⟩ := hr6.open; have a0 := cell_below hb6 a0; have a1 := cell_below hb6 a1; have a2 := cell_below hb6 a2; have a3 := cell_below hb6 a3; have b0 := cell_below hb6 b0; have b1 := cell_below hb6 b1; have b2 := cell_below hb6 b2; have b3 := cell_below hb6 b3; have yp := cell_below hb6 yp; have HB6 := Lib.hid (below_next HB5.out hb6); clear hb6 hr6)
              | (go_at_call 25; refine (fadd_calls _ _ y (part * (p : Rat)) (k + 3) _ (by exact ((HSQC.out.qin HFY.out).any).drew.below HB6.out) (by exact (Z6.out.qin HFM.out).any) (by omega) (by omega)).mono ?_; rintro e w8 ⟨hb8, r8, rfl, hr8⟩; obtain ⟨t3, A3, m3, c3, s3, B3, j3, d3, rfl, Z8⟩ := hr8.open; have a0 := cell_below hb8 a0; have a1 := cell_below hb8 a1; have a2 := cell_below hb8 a2; have a3 := cell_below hb8 a3; have b0 := cell_below hb8 b0; have b1 := cell_below hb8 b1; have b2 := cell_below hb8 b2; have b3 := cell_below hb8 b3; have yp := cell_below hb8 yp; have HB8 := Lib.hid (below_next (below_drew (Below.refl _ _)) (below_next HB6.out hb8)); have gs := heap_below HB8.out HSMC.out; have g0 := hfree gs 0; have g1 := hfree gs 1; have g2 := hfree gs 2; have g3 := hfree gs 3; have HS6 := Lib.hid HB6.out.size; clear hb8 hr8 gs))
          all_goals
            obtain ⟨Wy, hWy⟩ : ∃ Wy, Wy = ((((w8.setCell ⟨B, 0, none⟩ (.bool t3)).setCell ⟨B, 1, none⟩ (.slice A3 m3 c3)).setCell ⟨B, 2, none⟩ (.bool s3)).setCell ⟨B, 3, none⟩ (.slice B3 j3 d3)) := ⟨_, rfl⟩
            rw [← hWy]
            have hbw := hBw
            have hr9 := HR9.out
            have hsx := HSX.out
            have hn10 := HN10.out
            have h8 := HB8.out.size
            have hsc := HSC.out
            have h6 := HS6.out
            have h6' : wc.heap.size ≤ w6.heap.size := h6
            have hkk : ∀ i, i ≠ B → Wy.heap[i]? = w8.heap[i]? := fun i hi => by rw [hWy]; exact set_far (set_far (set_far (set_far rfl hi) hi) hi) hi
            have HXY := Lib.hid ((hkk w.heap.size (by omega)).trans (heap_below HB8.out HXC.out))
            have HRY := Lib.hid ((hkk (w.heap.size + 1) (by omega)).trans (heap_below HB8.out HRSC.out))
            have H10Y := Lib.hid ((hkk n10 (by omega)).trans (heap_below HB8.out G10.out))
            have HSMY : Hid (Wy.heap[B]? = some (.cells #[.bool t3, .slice A3 m3 c3, .bool s3, .slice B3 j3 d3] 44 (0, 0))) := Lib.hid (by rw [hWy]; exact set4h (heap_below HB8.out HSMC.out))
            have HSQY : Hid (QC (B + 1) Wy (.agg #[.bool t3, .slice A3 m3 c3, .bool s3, .slice B3 j3 d3]) (y + part * (p : Rat))) := Lib.hid (by rw [hWy]; exact Z8.out.stored (by omega) (by omega))
            have HQY : Hid (QIn (fun b _ => b < w.heap.size ∨ B + 1 ≤ b) Wy (.agg #[.bool t2, .slice A2 m2 c2, .bool s2, .slice B2 j2 d2]) x (k + 3)) := Lib.hid (by rw [hWy]; obtain ⟨x', y', hq1, hq2⟩ := HQC.out.below HB8.out; exact ⟨x', y', hq1.keepB (by intro o h; rcases h with h | h <;> omega), hq2⟩)
            have HPY : Hid (QC (B + 1) Wy (.agg #[.bool t4, .slice A4 m4 c4, .bool s4, .slice B4 j4 d4]) part) := Lib.hid ((HP10.out.below HB8.out).kept (fun i hi _ => hkk i (by omega)) (Nat.le_refl _))
            have HBY : Hid (Below w.heap.size w Wy) := Lib.hid (by rw [hWy]; exact four_stores (below_next (below_next HBX0.out HBC0.out) HB8.out) (by omega))
            have HSY : Hid (B + 1 ≤ Wy.heap.size) := Lib.hid (by rw [hWy]; simp only [World.size_setCell]; omega)
            have a0 : Wy.cell? ⟨w.heap.size, 0, none⟩ = some (.bool t2) := hcell HXY.out 0 rfl
            have a1 : Wy.cell? ⟨w.heap.size, 1, none⟩ = some (.slice A2 m2 c2) := hcell HXY.out 1 rfl
            have a2 : Wy.cell? ⟨w.heap.size, 2, none⟩ = some (.bool s2) := hcell HXY.out 2 rfl
            have a3 : Wy.cell? ⟨w.heap.size, 3, none⟩ = some (.slice B2 j2 d2) := hcell HXY.out 3 rfl
            have b0 : Wy.cell? ⟨n10, 0, none⟩ = some (.bool t4) := hcell H10Y.out 0 rfl
            have b1 : Wy.cell? ⟨n10, 1, none⟩ = some (.slice A4 m4 c4) := hcell H10Y.out 1 rfl
            have b2 : Wy.cell? ⟨n10, 2, none⟩ = some (.bool s4) := hcell H10Y.out 2 rfl
            have b3 : Wy.cell? ⟨n10, 3, none⟩ = some (.slice B4 j4 d4) := hcell H10Y.out 3 rfl
            clear yp g0 g1 g2 g3 hbw hr9 hsx hn10 h8 hsc h6 h6' hkk hWy
            go_wp2_with fail
            refine (fsub_calls _ _ x part (k + 3) _ HQY.out.any ((HPY.out.qin HFP.out).any) (by omega) (by omega)).mono ?_
            rintro e wz ⟨hbz, rz, rfl, hrz⟩
            obtain ⟨t7, A7, m7, c7, s7, B7, j7, d7, rfl, ZZ⟩ := hrz.open
            have HBZ := Lib.hid hbz
            have gz := heap_below hbz HXY.out
            have e0 : wz.cell? ⟨w.heap.size, 0, none⟩ = some (.bool t2) := hcell gz 0 rfl
            have e1 : wz.cell? ⟨w.heap.size, 1, none⟩ = some (.slice A2 m2 c2) := hcell gz 1 rfl
            have e2 : wz.cell? ⟨w.heap.size, 2, none⟩ = some (.bool s2) := hcell gz 2 rfl
            have e3 : wz.cell? ⟨w.heap.size, 3, none⟩ = some (.slice B2 j2 d2) := hcell gz 3 rfl
            have fz0 := hfree gz 0
            have fz1 := hfree gz 1
            have fz2 := hfree gz 2
            have fz3 := hfree gz 3
            have GZ := Lib.hid gz
            clear hbz hrz gz a0 a1 a2 a3 b0 b1 b2 b3
            go_wp2
            go_roundw
            case rel =>
              have hsy := HSY.out
              have hzs := HBZ.out.size
              have hD0 := HDK.out.1
              have hle : part ≤ x := by rw [HPART.out]; exact minQ_le_left _ _
              have hos := (HOY.out.add hD0 HOSP.out).mono (N := 16000000000000 * (i' + 1)) (by omega)
              have hovx := HOVX.out.sub hD0 HOVP.out hle
              refine ⟨i' + 1, x - part, y + part * (p : Rat), t7, A7, m7, c7, s7, B7, j7, d7, t3, A3, m3, c3, s3, B3, j3, d3, hlt, by go_num, set4h GZ.out, ?_, hovx, far4h (by omega) (heap_below HBZ.out HSMY.out), (HSQY.out.below HBZ.out).fours (by omega), far4h (by omega) (heap_below HBZ.out HRY.out), hos, HSH1.out, four_stores (below_next HBY.out HBZ.out) (Nat.le_refl _), by unfold Hid; simp only [World.size_setCell]; omega⟩
              have hfit : Fits (x - part) (k + 3) := fit_le (hovx.fits hD0 HDK.out.2 (by decide)) (by omega)
              exact ((((ZZ.out.mono (show B + 1 ≤ _ from hsy)).fours (n0 := w.heap.size) (by omega)).qin hfit).mono (fun b o h => .inr h.1))
            case measure => simp [intOf]; omega
      · obtain rfl : i' = s.length := by omega
        have hfin : costQ s q = y := by
          have h1 := HSH.out
          rw [List.drop_length] at h1
          unfold costQ
          rw [← h1]
          rfl
        have HFIN := Lib.hid hfin
        have a0 : wr.cell? ⟨B, 0, none⟩ = some (.bool t8) := hcell HSM.out 0 rfl
        have a1 : wr.cell? ⟨B, 1, none⟩ = some (.slice A8 m8 c8) := hcell HSM.out 1 rfl
        have a2 : wr.cell? ⟨B, 2, none⟩ = some (.bool s8) := hcell HSM.out 2 rfl
        have a3 : wr.cell? ⟨B, 3, none⟩ = some (.slice B8 j8 d8) := hcell HSM.out 3 rfl
        have gz := HRS.out
        have z0 : wr.cell? ⟨w.heap.size + 1, 0, none⟩ = some (.bool false) := hcell gz 0 rfl
        have z1 : wr.cell? ⟨w.heap.size + 1, 1, none⟩ = some (.slice none 0 0) := hcell gz 1 rfl
        have z2 : wr.cell? ⟨w.heap.size + 1, 2, none⟩ = some (.bool false) := hcell gz 2 rfl
        have z3 : wr.cell? ⟨w.heap.size + 1, 3, none⟩ = some (.slice none 0 0) := hcell gz 3 rfl
        have f0 := hfree gz 0
        have f1 := hfree gz 1
        have f2 := hfree gz 2
        have f3 := hfree gz 3
        clear hfin gz
        go_wp2
        refine bodyPost_ret (v := .tuple #[.agg #[.bool t8, .slice A8 m8 c8, .bool s8, .slice B8 j8 d8], .int .i64 0]) (by simp [results, Tryz.results43, go_sem, z0, z1, z2, z3]) rfl ?_
        rw [HE.out, HFIN.out]
        exact ⟨four_stores HBW.out (by omega), _, rfl, HSQ.out.stored (by omega) (by omega)⟩
  · have HE : Hid (costR s q = (0, d)) := Lib.hid (by unfold costR; rw [if_neg (hd ▸ h0), hd])
    have hf : (d == 0) = false := by rw [beq_eq_false_iff_ne]; exact h0
    clear hd h0
    go_wp2
    refine bodyPost_ret (v := .tuple #[.agg #[.bool false, .slice none 0 0, .bool false, .slice none 0 0], .int .i64 d]) (by simp [results, Tryz.results43, go_sem, z0, z1, z2, z3]) rfl ?_
    rw [HE.out]
    have h1 := HS.out
    exact ⟨four_stores HB1.out (by omega), _, rfl, QC.zero _ _⟩
#print axioms cost_calls
end Go.Proofs.YtlaemhigmgmgjaaGreat
