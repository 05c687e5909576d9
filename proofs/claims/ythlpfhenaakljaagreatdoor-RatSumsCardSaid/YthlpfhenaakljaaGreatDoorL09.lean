/- ref06.Sum. ref06.Quo. ref06.Cmp, ref06.Is. law06.Long, law06.spoil. law06.spoil. rat.Over, law06.over. rat.Half; quo.Pow. rat.Pow. rat.equal, rat.May. dec.Read of one digit. whole.Read of some texts. rat.May. strings.Cut of two texts; rat.Read of them. -/
import Derived.Test.YthlpfhenaakljaaGreatDoorL08
namespace Go.Proofs.YthlpfhenaakljaaGreatDoor
open Go.RowKit

set_option maxHeartbeats 3200000 in
theorem sum6_calls (v : Value) (qs : List Tq) (w : World) (hv : Lv w v qs) (hs : ∀ q ∈ qs, Six q) (hl : qs.length ≤ 6) :
    Calls Tryz.prog 18 #[v] w (RetR (sumQ qs).1 (sumQ qs).2 w) := by
  obtain ⟨a, cap, rfl, hcap, hr⟩ := hv
  have HB := Lib.hid (sumQ_bnd hs)
  have HS := Lib.hid hs
  have HR := Lib.hid hr
  clear hr hs
  go_enter Tryz.func18, Tryz.ntmps18
  go_upto_region 1 with fail
  obtain ⟨g1, hB0, hsz⟩ := one_block w (.cells #[.bool false, .slice none 0 0, .slice none 0 0] 27)
  generalize w.alloc (.cells #[.bool false, .slice none 0 0, .slice none 0 0] 27) = W at *
  have HG := Lib.hid g1
  have HB0 := Lib.hid hB0
  have HS0 := Lib.hid hsz
  clear g1 hB0 hsz
  generalize hj : w.heap.size = j2 at *
  have HJ := Lib.hid hj
  clear hj
  go_wp2_with fail
  refine (of60_calls _).mono ?_
  rintro e w2 ⟨v, rfl, ⟨vn, vd, rfl, hn, hdn⟩, hb⟩
  obtain ⟨a1, c1, rfl⟩ := hn.slice
  obtain ⟨a2, c2, rfl⟩ := hdn.slice
  have ga := heap_alloc_new w2 (.cells #[.bool false, .slice none 0 0, .slice none 0 0] 27)
  have e0 := frozen_of_row _ _ 0 _ _ ga
  have e1 := frozen_of_row _ _ 1 _ _ ga
  have e2 := frozen_of_row _ _ 2 _ _ ga
  have r0 := cell_of_row _ _ 0 _ _ (0, 0) ga
  have r1 := cell_of_row _ _ 1 _ _ (0, 0) ga
  have r2 := cell_of_row _ _ 2 _ _ (0, 0) ga
  have HG2 := Lib.hid (block_of hb HG.out)
  have HB2 := Lib.hid (HB0.out.trans (hb.mono (Nat.le_of_lt HS0.out)))
  have HN := Lib.hid hn
  have HD := Lib.hid hdn
  have HS2 := Lib.hid (Nat.lt_of_lt_of_le HS0.out hb.size)
  clear ga hn hdn hb
  go_upto_region 2 with fail
  clear e0 e1 e2 r0 r1 r2
  have HST := Lib.hid (show SumSt w j2 w2.heap.size (sumQ (qs.take 0)) (w2.alloc (.cells #[.bool (decide ((0 : Int) < 0)), .slice a1 (Dg.db B64 (Int.natAbs 0)).length c1, .slice a2 (Dg.db B64 1).length c2] 27)) from
    sum_start (by rw [HJ.out]; exact HB2.out) HG2.out HN.out HD.out HS0.out HS0.out)
  have HN3 := Lib.hid (show j2 ≠ w2.heap.size ∧ w2.heap.size ≠ j2 ∧ w.heap.size ≤ w2.heap.size ∧ w.heap.size ≤ j2 by have h1 := HS2.out; have h2 := HJ.out; omega)
  have hn23 := HN3.out.1
  have hn32 := HN3.out.2.1
  have HRR := Lib.hid (show qs = [] ∨ ∃ b off, a = some ⟨b, off, none⟩ ∧ b < w.heap.size ∧ ∀ (i : Nat) (q : Tq), qs[i]? = some q → Qc w b (off + i * 3) q by rw [HJ.out]; exact HR.out)
  change Code.wp _ _ _ _ (w2.alloc (.cells #[.bool (decide ((0 : Int) < 0)), .slice a1 (Dg.db B64 (Int.natAbs 0)).length c1, .slice a2 (Dg.db B64 1).length c2] 27))
  generalize w2.alloc (.cells #[.bool (decide ((0 : Int) < 0)), .slice a1 (Dg.db B64 (Int.natAbs 0)).length c1, .slice a2 (Dg.db B64 1).length c2] 27) = W3 at *
  generalize w2.heap.size = j3 at *
  clear HN HD HG2 HB2 HG HB0 HR HS2
  go_wp2_with fail
  go_loopw [4] (fun s wr => ∃ k : Nat, k ≤ qs.length ∧ s = .int .i64 k ∧ Hid (SumSt w j2 j3 (sumQ (qs.take k)) wr)) (fun s _ => qs.length - (intOf s).toNat)
  case atStart => exact ⟨0, Nat.zero_le _, rfl, HST⟩
  case round =>
    obtain ⟨k, hk, rfl, hrel⟩ := hrel
    clear HST
    obtain ⟨a1, c1, a2, c2, q3, q2, hb, hn, hd⟩ := hrel.out
    have x0 := cell_of_row _ _ 0 _ _ (0, 0) q3
    have x1 := cell_of_row _ _ 1 _ _ (0, 0) q3
    have x2 := cell_of_row _ _ 2 _ _ (0, 0) q3
    by_cases hkl : k < qs.length
    · have hq := List.getElem?_eq_getElem hkl
      have HSUM := Lib.hid (sumQ_succ hq)
      have HSX := Lib.hid (HS.out _ (List.getElem_mem hkl))
      rcases HRR.out with rfl | ⟨b, off, rfl, hlt, hc⟩
      · simp at hkl
      have hqc := (hc k _ hq).below hlt hb
      generalize qs[k] = q at *
      obtain ⟨m1, m2, t0, t1, t2, n1, n2⟩ := hqc
      have HBK := Lib.hid (HB.out k hk)
      generalize sumQ (qs.take k) = p at *
      obtain ⟨z, d⟩ := p
      have CA := Lib.hid (fun wx (hb : Below wr.heap.size wr wx) => add6_calls (decide (z < 0)) q.1 _ _ m1 m2 _ _ q.2.1 q.2.2 z (zQ q) d (dQ q) wx (hn.nv.below hb) (hd.nv.below hb) (n1.below hb) (n2.below hb)
        (Nat.le_trans HBK.out.1 (by omega)) (Nat.le_trans HBK.out.2.1 (by omega)) (Nat.le_trans HSX.out.2.2.1 (by decide)) (Nat.le_trans HSX.out.2.2.2 (by decide)) HBK.out.2.2.z HBK.out.2.2.d rfl rfl)
      obtain ⟨_, b1, e1, rfl, _, _⟩ := id n1
      obtain ⟨_, b2, e2, rfl, _, _⟩ := id n2
      have HQ := Lib.hid (And.intro q3 (And.intro q2 hb))
      clear n1 n2 hn hd hrel hc q3 q2 hb
      generalize hzz : decide (z < 0) = zb at *
      clear hzz
      generalize hA : addQ (z, d) q = A at *
      have HA := Lib.hid hA
      clear hA
      obtain ⟨Az, Ad⟩ := A
      have hkl2 : (k : Int) < qs.length := by omega
      go_upto_region 5 with fail
      go_region_with (first
        | (go_at_call 14
           refine Calls.mono (CA.out _ (Below.refl _ _).drew) ?_
           rintro e w5 ⟨v, rfl, hr, hb⟩
           have hr : RR (addQ (z, d) q).1 (addQ (z, d) q).2 _ _ _ := hr
           rw [HA.out] at hr
           have hr2 := hr
           obtain ⟨vn, vd, rfl, hn, hdn⟩ := hr
           obtain ⟨a5, c5, rfl⟩ := hn.slice
           obtain ⟨a6, c6, rfl⟩ := hdn.slice
           have HRR2 := Lib.hid hr2
           have hb1 : Below wr.heap.size wr w5 := (Below.refl wr.heap.size wr).drew.trans hb
           have q3 := block_of hb1 HQ.out.1
           have q2 := block_of hb1 HQ.out.2.1
           have HB5 := Lib.hid (HQ.out.2.2.trans (hb1.mono HQ.out.2.2.size))
           have HLT := Lib.hid (show j2 < wr.heap.size ∧ j3 < wr.heap.size from ⟨heap_lt HQ.out.2.1, heap_lt HQ.out.1⟩)
           have HQ5 := Lib.hid (And.intro q3 q2)
           clear hr2 hn hdn hb hb1
           have y0 := cell_of_row _ _ 0 _ _ (0, 0) q3
           have y1 := cell_of_row _ _ 1 _ _ (0, 0) q3
           have y2 := cell_of_row _ _ 2 _ _ (0, 0) q3
           have k0 := frozen_of_row _ _ 0 _ _ q3
           have k1 := frozen_of_row _ _ 1 _ _ q3
           have k2 := frozen_of_row _ _ 2 _ _ q3
           clear q3 q2))
      all_goals go_wp2_with fail
      all_goals go_roundw
      all_goals first
        | exact ⟨k + 1, hkl, by go_num, Lib.hid (by rw [HSUM.out]; exact sum_next HQ5.out.1 HQ5.out.2 HN3.out.1 HB5.out HN3.out.2.2.1 HRR2.out HLT.out.1 HLT.out.2)⟩
        | (simp only [intOf]; omega)
    · have hke : k = qs.length := by omega
      subst hke
      rw [List.take_length] at hn hd q3 x0 x1 x2
      have HQ := Lib.hid (And.intro q3 (And.intro q2 (And.intro hb (And.intro hn hd))))
      have t0 := frozen_of_row _ _ 0 _ _ q2
      have t1 := frozen_of_row _ _ 1 _ _ q2
      have t2 := frozen_of_row _ _ 2 _ _ q2
      have v0 := cell_of_row _ _ 0 _ _ (0, 0) q2
      have v1 := cell_of_row _ _ 1 _ _ (0, 0) q2
      have v2 := cell_of_row _ _ 2 _ _ (0, 0) q2
      clear q3 q2 hb hn hd hrel
      have hll : ¬ ((qs.length : Int) < qs.length) := by omega
      go_wp2_with fail
      refine ret_row rfl _ _ j2 27 _ (0, 0) rfl (stored3 HQ.out.2.1 _ _ _) und_Rat size_Rat ?_
      exact ⟨_, rfl, ⟨_, _, rfl, (filled3 HQ.out.2.2.1 HN3.out.2.2.2 _ _ _).2 _ _ _ (Nat.lt_succ_self _) HQ.out.2.2.2.1, (filled3 HQ.out.2.2.1 HN3.out.2.2.2 _ _ _).2 _ _ _ (Nat.lt_succ_self _) HQ.out.2.2.2.2⟩, (filled3 HQ.out.2.2.1 HN3.out.2.2.2 _ _ _).1⟩

end Go.Proofs.YthlpfhenaakljaaGreatDoor

namespace Go.Proofs.YthlpfhenaakljaaGreatDoor
open Go.RowKit

theorem quo_flip {z1 z2 : Int} {d2 : Nat} (h : Red z2 d2) (h0 : z2 ≠ 0) :
    redZ (decide (z2 < 0)) d2 z2.natAbs = sgn (decide (z2 < 0)) d2 ∧ redD d2 z2.natAbs = z2.natAbs ∧ z1 * sgn (decide (z2 < 0)) d2 = sgn (!(decide (z1 < 0) == decide (z2 < 0))) (z1.natAbs * d2) := by
  have hne : z2.natAbs ≠ 0 := by omega
  have hg : Nat.gcd d2 z2.natAbs = 1 := by rw [Nat.gcd_comm]; exact h.2
  refine ⟨?_, ?_, ?_⟩
  · unfold redZ; rw [if_neg hne, hg, Nat.div_one]
  · unfold redD; rw [if_neg hne, hg, Nat.div_one]
  · have := sgn_mul2 (decide (z1 < 0)) (decide (z2 < 0)) z1.natAbs d2
    rw [sgn_of] at this
    exact this.symm

set_option maxHeartbeats 3200000 in
theorem quo6_calls (b1 b2 : Bool) (m1 m2 m3 m4 : Value) (xs ys us vs : List Nat) (z1 z2 : Int) (d1 d2 : Nat) (w : World) (h1 : Nv w m1 xs) (h2 : Nv w m2 ys) (h3 : Nv w m3 us) (h4 : Nv w m4 vs)
    (l1 : xs.length ≤ 199) (l2 : ys.length ≤ 199) (l3 : us.length ≤ 199) (l4 : vs.length ≤ 199)
    (hz1 : z1 = redZ b1 (Dg.dv B64 xs) (Dg.dv B64 ys)) (hd1 : d1 = redD (Dg.dv B64 xs) (Dg.dv B64 ys)) (hz2 : z2 = redZ b2 (Dg.dv B64 us) (Dg.dv B64 vs)) (hd2 : d2 = redD (Dg.dv B64 us) (Dg.dv B64 vs)) :
    Calls Tryz.prog 6 #[.agg #[.bool b1, m1, m2], .agg #[.bool b2, m3, m4]] w (RetQuo z1 d1 z2 d2 w) := by
  obtain ⟨_, a1, c1, rfl, _, _⟩ := id h1
  obtain ⟨_, a2, c2, rfl, _, _⟩ := id h2
  obtain ⟨_, a3, c3, rfl, _, _⟩ := id h3
  obtain ⟨_, a4, c4, rfl, _, _⟩ := id h4
  have hR : Red z2 d2 := by rw [hz2, hd2]; exact red_red _ _ _
  have HQF := Lib.hid (fun h0 => quo_flip (z1 := z1) hR h0)
  have lz : (Dg.db B64 z2.natAbs).length ≤ 200 := by rw [hz2]; exact Nat.le_trans (redZ_len b2 h3.1 _) (by omega)
  have ld : (Dg.db B64 d2).length ≤ 200 := by rw [hd2]; exact Nat.le_trans (redD_len _ h4.1) (by omega)
  have CC := Lib.hid (fun wx (hb : Below w.heap.size w wx) => count6_calls b2 _ _ us vs wx (h3.below hb) (h4.below hb) (by omega) (by omega))
  have CM := Lib.hid (fun wx v v' (hb : Bel w wx) (hn : Nv wx v (Dg.db B64 d2)) (hd : Nv wx v' (Dg.db B64 z2.natAbs)) =>
    mul6_calls b1 (decide (z2 < 0)) _ _ v v' xs ys _ _ z1 (redZ (decide (z2 < 0)) d2 z2.natAbs) d1 (redD d2 z2.natAbs) wx (h1.below hb) (h2.below hb) hn hd (by omega) (by omega) ld lz hz1 hd1 (by rw [Dg.dv_db (by decide), Dg.dv_db (by decide)]) (by rw [Dg.dv_db (by decide), Dg.dv_db (by decide)]))
  rw [← hz2, ← hd2] at CC
  clear h1 h2 h3 h4 hz1 hd1 hz2 hd2 hR lz ld
  go_enter Tryz.func6, Tryz.ntmps6
  go_upto_region 1 with fail
  obtain ⟨g1, g2, g3, hB0, hsz⟩ := three_blocks w (.cells #[.bool b1, .slice a1 xs.length c1, .slice a2 ys.length c2] 27) (.cells #[.bool b2, .slice a3 us.length c3, .slice a4 vs.length c4] 27) (.cells #[.bool false, .slice none 0 0, .slice none 0 0] 27)
  generalize ((w.alloc (.cells #[.bool b1, .slice a1 xs.length c1, .slice a2 ys.length c2] 27)).alloc (.cells #[.bool b2, .slice a3 us.length c3, .slice a4 vs.length c4] 27)).alloc (.cells #[.bool false, .slice none 0 0, .slice none 0 0] 27) = W at *
  have HC := Lib.hid (CC.out W hB0)
  have HG1 := Lib.hid g1
  have HG2 := Lib.hid g2
  have HG3 := Lib.hid g3
  have HB0 := Lib.hid (show Bel w W from hB0)
  have HS0 := Lib.hid (show w.heap.size ≤ W.heap.size by omega)
  have y0 := cell_of_row _ _ 0 _ _ (0, 0) g2
  have y1 := cell_of_row _ _ 1 _ _ (0, 0) g2
  have y2 := cell_of_row _ _ 2 _ _ (0, 0) g2
  have HNE := Lib.hid (show w.heap.size ≠ w.heap.size + 1 ∧ w.heap.size + 1 ≠ w.heap.size + 1 + 1 ∧ w.heap.size ≠ w.heap.size + 1 + 1 ∧ w.heap.size ≤ w.heap.size + 1 ∧ w.heap.size ≤ w.heap.size + 1 + 1 by omega)
  clear g1 g2 g3 hB0 hsz CC
  generalize w.heap.size + 1 + 1 = j3 at *
  generalize w.heap.size + 1 = j2 at *
  generalize hj : w.heap.size = j1 at *
  have HJ := Lib.hid hj
  clear hj
  go_wp2_with fail
  refine HC.out.mono ?_
  rintro e w2 ⟨v, rfl, ⟨vn, vd, rfl, hn, hdn⟩, hb⟩
  obtain ⟨a5, c5, rfl⟩ := hn.slice
  obtain ⟨a6, c6, rfl⟩ := hdn.slice
  have HB2 := Lib.hid (show Bel w w2 from HB0.out.trans (hb.mono (by rw [HJ.out]; exact HS0.out)))
  have hg1 := block_of hb HG1.out
  have hg2 := block_of hb HG2.out
  have hg3 := block_of hb HG3.out
  have HLT := Lib.hid (show j1 < W.heap.size ∧ j2 < W.heap.size ∧ j3 < W.heap.size from ⟨heap_lt HG1.out, heap_lt HG2.out, heap_lt HG3.out⟩)
  have HN := Lib.hid hn
  have HDN := Lib.hid hdn
  have f0 := frozen_of_row _ _ 0 _ _ hg2
  have f1 := frozen_of_row _ _ 1 _ _ hg2
  have f2 := frozen_of_row _ _ 2 _ _ hg2
  have y0 := cell_of_row _ _ 0 _ _ (0, 0) hg2
  have y1 := cell_of_row _ _ 1 _ _ (0, 0) hg2
  have y2 := cell_of_row _ _ 2 _ _ (0, 0) hg2
  have HGG := Lib.hid (And.intro hg1 (And.intro hg2 hg3))
  clear hn hdn hb hg1 hg2 hg3
  generalize hze : decide (z2 < 0) = bb at *
  go_upto_region 2 with fail
  have k1 := other3 HGG.out.1 HNE.out.1 (.bool bb) (.slice a5 (Dg.db B64 z2.natAbs).length c5) (.slice a6 (Dg.db B64 d2).length c6)
  have k2 := stored3 HGG.out.2.1 (.bool bb) (.slice a5 (Dg.db B64 z2.natAbs).length c5) (.slice a6 (Dg.db B64 d2).length c6)
  have k3 := other3 HGG.out.2.2 (Ne.symm HNE.out.2.1) (.bool bb) (.slice a5 (Dg.db B64 z2.natAbs).length c5) (.slice a6 (Dg.db B64 d2).length c6)
  have n1 := (kept3 HN.out HLT.out.2.1 (.bool bb) (.slice a5 (Dg.db B64 z2.natAbs).length c5) (.slice a6 (Dg.db B64 d2).length c6)).nv
  have n2 := (kept3 HDN.out HLT.out.2.1 (.bool bb) (.slice a5 (Dg.db B64 z2.natAbs).length c5) (.slice a6 (Dg.db B64 d2).length c6)).nv
  have hB3 := (filled3 (w := w) (g := j2) HB2.out (by rw [HJ.out]; exact HNE.out.2.2.2.1) (.bool bb) (.slice a5 (Dg.db B64 z2.natAbs).length c5) (.slice a6 (Dg.db B64 d2).length c6)).1
  clear f0 f1 f2 y0 y1 y2
  generalize ((w2.setCell ⟨j2, 0, none⟩ (.bool bb)).setCell ⟨j2, 1, none⟩ (.slice a5 (Dg.db B64 z2.natAbs).length c5)).setCell ⟨j2, 2, none⟩ (.slice a6 (Dg.db B64 d2).length c6) = W3 at *
  have x0 := cell_of_row _ _ 0 _ _ (0, 0) k1
  have x1 := cell_of_row _ _ 1 _ _ (0, 0) k1
  have x2 := cell_of_row _ _ 2 _ _ (0, 0) k1
  have y0 := cell_of_row _ _ 0 _ _ (0, 0) k2
  have y1 := cell_of_row _ _ 1 _ _ (0, 0) k2
  have y2 := cell_of_row _ _ 2 _ _ (0, 0) k2
  have t0 := frozen_of_row _ _ 0 _ _ k3
  have t1 := frozen_of_row _ _ 1 _ _ k3
  have t2 := frozen_of_row _ _ 2 _ _ k3
  have v0 := cell_of_row _ _ 0 _ _ (0, 0) k3
  have v1 := cell_of_row _ _ 1 _ _ (0, 0) k3
  have v2 := cell_of_row _ _ 2 _ _ (0, 0) k3
  have HK := Lib.hid k3
  have HB3 := Lib.hid (show Bel w W3 from hB3)
  have HGE := Lib.hid (show w.heap.size ≤ j3 by rw [HJ.out]; exact HNE.out.2.2.2.2)
  have HZE := Lib.hid hze
  have HS3 := Lib.hid (heap_lt k3)
  have HCM := Lib.hid (CM.out W3 _ _ hB3 n2 n1)
  clear k1 k2 k3 hB3 hze n1 n2
  by_cases h0 : z2 = 0
  · have hl0 : (((Dg.db B64 z2.natAbs).length : Int) == 0) = true := by rw [h0]; rfl
    have H0 := Lib.hid h0
    clear h0 HCM CM
    go_wp2_with fail
    refine ret_row_tmp rfl _ _ j3 27 _ (0, 0) rfl (stored3 HK.out _ _ _) und_Rat size_Rat ?_
    exact ⟨(filled3 HB3.out HGE.out _ _ _).1, fun _ => rfl, fun h => absurd H0.out h⟩
  · have hl0 : (((Dg.db B64 z2.natAbs).length : Int) == 0) = false := by rw [beq_eq_false_iff_ne]; have := db_len_pos (show z2.natAbs ≠ 0 by omega); omega
    have H0 := Lib.hid h0
    have HF := Lib.hid (HQF.out h0)
    clear h0 CM
    rw [HF.out.1, HF.out.2.1, HF.out.2.2] at HCM
    generalize hZ : nrm (sgn (!(decide (z1 < 0) == bb)) (z1.natAbs * d2)) (d1 * z2.natAbs) = Z at *
    generalize hD : nrd (sgn (!(decide (z1 < 0) == bb)) (z1.natAbs * d2)) (d1 * z2.natAbs) = D at *
    have HZD := Lib.hid (And.intro hZ hD)
    clear hZ hD HF HQF
    go_wp2_with fail
    refine HCM.out.mono ?_
    rintro e w5 ⟨v, rfl, ⟨vn, vd, rfl, hn, hdn⟩, hb⟩
    obtain ⟨a7, c7, rfl⟩ := hn.slice
    obtain ⟨a8, c8, rfl⟩ := hdn.slice
    have k3 := block_of hb HK.out
    have HK2 := Lib.hid k3
    have HB5 := Lib.hid (show Below w.heap.size w w5 from HB3.out.trans (hb.mono HB3.out.size))
    have HN5 := Lib.hid hn
    have HD5 := Lib.hid hdn
    have t0 := frozen_of_row _ _ 0 _ _ k3
    have t1 := frozen_of_row _ _ 1 _ _ k3
    have t2 := frozen_of_row _ _ 2 _ _ k3
    have v0 := cell_of_row _ _ 0 _ _ (0, 0) k3
    have v1 := cell_of_row _ _ 1 _ _ (0, 0) k3
    have v2 := cell_of_row _ _ 2 _ _ (0, 0) k3
    clear k3 hn hdn hb
    go_wp2_with fail
    refine ret_row_tmp rfl _ _ j3 27 _ (0, 0) rfl (stored3 HK2.out _ _ _) und_Rat size_Rat ?_
    refine ⟨(filled3 HB5.out HGE.out _ _ _).1, fun h => absurd h H0.out, fun _ => ⟨_, rfl, ?_⟩⟩
    rw [HZE.out, HZD.out.1, HZD.out.2]
    exact ⟨_, _, rfl, (filled3 HB5.out HGE.out _ _ _).2 _ _ _ HS3.out HN5.out, (filled3 HB5.out HGE.out _ _ _).2 _ _ _ HS3.out HD5.out⟩

end Go.Proofs.YthlpfhenaakljaaGreatDoor

namespace Go.Proofs.YthlpfhenaakljaaGreatDoor
open Go.RowKit

theorem nrm_sign {z : Int} {d : Nat} (hd : d ≠ 0) : (nrm z d < 0 ↔ z < 0) ∧ (nrm z d = 0 ↔ z = 0) := by
  have h := (rr_nrm (z := z) hd).1
  rw [← h]
  have hg : 0 < Nat.gcd z.natAbs d := Nat.gcd_pos_of_pos_right _ (by omega)
  have hq : z ≠ 0 → 0 < z.natAbs / Nat.gcd z.natAbs d := fun h0 => Nat.div_pos (Nat.gcd_le_left _ (by omega)) hg
  have hq0 : z = 0 → z.natAbs / Nat.gcd z.natAbs d = 0 := fun h0 => by rw [h0]; simp
  generalize z.natAbs / Nat.gcd z.natAbs d = q at *
  unfold sgn
  rcases Int.lt_trichotomy z 0 with h1 | h1 | h1
  · have := hq (by omega)
    simp [h1]; omega
  · have := hq0 h1
    simp [h1, this]
  · have := hq (by omega)
    have h2 : ¬ z < 0 := by omega
    simp [h2]; omega

theorem cmp_nrm {z1 z2 : Int} {d1 d2 : Nat} (hd : d1 * d2 ≠ 0) : (if nrm (z1 * (d2 : Int) + -z2 * (d1 : Int)) (d1 * d2) < 0 then (-1 : Int) else min 1 ((Dg.db B64 (nrm (z1 * (d2 : Int) + -z2 * (d1 : Int)) (d1 * d2)).natAbs).length : Int)) = cmpI (z1 * (d2 : Int)) (z2 * (d1 : Int)) := by
  obtain ⟨h1, h2⟩ := nrm_sign (z := z1 * (d2 : Int) + -z2 * (d1 : Int)) hd
  have e : -z2 * (d1 : Int) = -(z2 * (d1 : Int)) := Int.neg_mul _ _
  rw [e] at h1 h2 ⊢
  generalize z1 * (d2 : Int) = a at *
  generalize z2 * (d1 : Int) = b at *
  generalize nrm (a + -b) (d1 * d2) = Z at *
  unfold cmpI
  by_cases hz : Z < 0
  · have := h1.1 hz
    rw [if_pos hz, if_pos (by omega)]
  · have h3 : ¬ a < b := fun h => hz (h1.2 (by omega))
    rw [if_neg hz, if_neg h3]
    by_cases h4 : Z = 0
    · have := h2.1 h4
      rw [if_neg (by omega), h4]; rfl
    · have h5 : ¬ (a + -b = 0) := fun h => h4 (h2.2 h)
      have h6 := db_len_pos (show Z.natAbs ≠ 0 by omega)
      rw [if_pos (by omega)]
      omega

set_option maxRecDepth 100000 in
set_option maxHeartbeats 1600000 in
theorem cmp6_calls (b1 b2 : Bool) (m1 m2 m3 m4 : Value) (xs ys us vs : List Nat) (z1 z2 : Int) (d1 d2 : Nat) (w : World) (h1 : Nv w m1 xs) (h2 : Nv w m2 ys) (h3 : Nv w m3 us) (h4 : Nv w m4 vs)
    (l1 : xs.length ≤ 199) (l2 : ys.length ≤ 199) (l3 : us.length ≤ 199) (l4 : vs.length ≤ 199)
    (hz1 : z1 = redZ b1 (Dg.dv B64 xs) (Dg.dv B64 ys)) (hd1 : d1 = redD (Dg.dv B64 xs) (Dg.dv B64 ys)) (hz2 : z2 = redZ b2 (Dg.dv B64 us) (Dg.dv B64 vs)) (hd2 : d2 = redD (Dg.dv B64 us) (Dg.dv B64 vs)) :
    Calls Tryz.prog 20 #[.agg #[.bool b1, m1, m2], .agg #[.bool b2, m3, m4]] w (fun e w' => e = .returned (.int .i64 (cmpI (z1 * (d2 : Int)) (z2 * (d1 : Int)))) ∧ Below w.heap.size w w') := by
  obtain ⟨_, a1, c1, rfl, _, _⟩ := id h1
  obtain ⟨_, a2, c2, rfl, _, _⟩ := id h2
  obtain ⟨_, a3, c3, rfl, _, _⟩ := id h3
  obtain ⟨_, a4, c4, rfl, _, _⟩ := id h4
  have hdd : d1 * d2 ≠ 0 := by rw [hd1, hd2]; exact Nat.mul_ne_zero (redD_pos _ _) (redD_pos _ _)
  have hc := cmp_nrm (z1 := z1) (z2 := z2) hdd
  have CS := Lib.hid (fun wx (hb : Below w.heap.size w wx) => sub6_calls b1 b2 _ _ _ _ xs ys us vs z1 z2 d1 d2 wx (h1.below hb) (h2.below hb) (h3.below hb) (h4.below hb) l1 l2 l3 l4 hz1 hd1 hz2 hd2)
  clear h1 h2 h3 h4 hz1 hd1 hz2 hd2 hdd
  generalize cmpI (z1 * (d2 : Int)) (z2 * (d1 : Int)) = C at *
  generalize nrm (z1 * (d2 : Int) + -z2 * (d1 : Int)) (d1 * d2) = Z at *
  generalize nrd (z1 * (d2 : Int) + -z2 * (d1 : Int)) (d1 * d2) = D at *
  have HC := Lib.hid hc
  clear hc
  go_enter Tryz.func20, Tryz.ntmps20
  go_upto_region 1 with fail
  obtain ⟨g1, g2, hB0, hsz⟩ := two_blocks w (.cells #[.bool b1, .slice a1 xs.length c1, .slice a2 ys.length c2] 27) (.cells #[.bool b2, .slice a3 us.length c3, .slice a4 vs.length c4] 27)
  generalize (w.alloc (.cells #[.bool b1, .slice a1 xs.length c1, .slice a2 ys.length c2] 27)).alloc (.cells #[.bool b2, .slice a3 us.length c3, .slice a4 vs.length c4] 27) = W at *
  have HM := Lib.hid (CS.out _ hB0)
  have HB0 := Lib.hid hB0
  have HS0 := Lib.hid (show w.heap.size ≤ W.heap.size by omega)
  have x0 := cell_of_row _ _ 0 _ _ (0, 0) g1
  have x1 := cell_of_row _ _ 1 _ _ (0, 0) g1
  have x2 := cell_of_row _ _ 2 _ _ (0, 0) g1
  have y0 := cell_of_row _ _ 0 _ _ (0, 0) g2
  have y1 := cell_of_row _ _ 1 _ _ (0, 0) g2
  have y2 := cell_of_row _ _ 2 _ _ (0, 0) g2
  clear g1 g2 hB0 hsz CS
  go_wp2_with fail
  refine HM.out.mono ?_
  rintro e w2 ⟨v, rfl, ⟨vn, vd, rfl, hn, hdn⟩, hb⟩
  obtain ⟨a5, c5, rfl⟩ := hn.slice
  obtain ⟨a6, c6, rfl⟩ := hdn.slice
  have HB2 := Lib.hid (HB0.out.trans (hb.mono HS0.out))
  have HB3 := Lib.hid (HB2.out.alloc HB2.out.size (.cells #[.bool (decide (Z < 0)), .slice a5 (Dg.db B64 Z.natAbs).length c5] 25))
  have ga := heap_alloc_new w2 (.cells #[.bool false, .slice none 0 0] 25)
  have e0 := frozen_of_row _ _ 0 _ _ ga
  have e1 := frozen_of_row _ _ 1 _ _ ga
  have r0 := cell_of_row _ _ 0 _ _ (0, 0) ga
  have r1 := cell_of_row _ _ 1 _ _ (0, 0) ga
  clear ga hn hdn hb x0 x1 x2 y0 y1 y2
  have hfd : ∀ (bb : Bool) (n1 n2 : Nat) (a1 a2 : Option Addr) (c1 c2 : Nat) (wz : World), (Instr.field 27 (.agg #[.bool bb, .slice a1 n1 c1, .slice a2 n2 c2]) 0).run Tryz.prog wz = .ok (.agg #[.bool bb, .slice a1 n1 c1]) wz := fun _ _ _ _ _ _ _ _ => by kernel_rfl
  by_cases hz : Z < 0
  · have HE := Lib.hid (show C = -1 by have := HC.out; rw [if_pos hz] at this; exact this.symm)
    rw [decide_eq_true hz] at HB3 ⊢
    clear hz
    go_wp2_with fail
    go_ret
    exact ⟨by rw [HE.out]; rfl, HB3.out⟩
  · have HE := Lib.hid (show C = min 1 ((Dg.db B64 Z.natAbs).length : Int) by have := HC.out; rw [if_neg hz] at this; exact this.symm)
    rw [decide_eq_false hz] at HB3 ⊢
    clear hz
    go_wp2_with fail
    go_ret
    exact ⟨by rw [HE.out]; rfl, HB3.out⟩

set_option maxHeartbeats 1600000 in
theorem is6_calls (b : Bool) (m1 m2 m3 m4 : Value) (xs ys : List Nat) (w : World) (h1 : Nv w m1 xs) (h2 : Nv w m2 ys) (h3 : Nv w m3 xs) (h4 : Nv w m4 ys) (l1 : xs.length ≤ 1048576) (l2 : ys.length ≤ 1048576) :
    Calls Tryz.prog 13 #[.agg #[.bool b, m1, m2], .agg #[.bool b, m3, m4]] w (fun e w' => e = .returned (.bool true) ∧ Below w.heap.size w w') := by
  obtain ⟨_, a1, c1, rfl, _, _⟩ := id h1
  obtain ⟨_, a2, c2, rfl, _, _⟩ := id h2
  obtain ⟨_, a3, c3, rfl, _, _⟩ := id h3
  obtain ⟨_, a4, c4, rfl, _, _⟩ := id h4
  have S1 := Lib.hid (fun wx (hb : Below w.heap.size w wx) => same2_calls _ _ xs xs wx (h1.below hb) (h3.below hb) (by omega))
  have S2 := Lib.hid (fun wx (hb : Below w.heap.size w wx) => same2_calls _ _ ys ys wx (h2.below hb) (h4.below hb) (by omega))
  rw [decide_eq_true (rfl : xs = xs)] at S1
  rw [decide_eq_true (rfl : ys = ys)] at S2
  clear h1 h2 h3 h4
  go_enter Tryz.func13, Tryz.ntmps13
  go_upto_region 1 with fail
  obtain ⟨g1, g2, hB0, hsz⟩ := two_blocks w (.cells #[.bool b, .slice a1 xs.length c1, .slice a2 ys.length c2] 27) (.cells #[.bool b, .slice a3 xs.length c3, .slice a4 ys.length c4] 27)
  generalize (w.alloc (.cells #[.bool b, .slice a1 xs.length c1, .slice a2 ys.length c2] 27)).alloc (.cells #[.bool b, .slice a3 xs.length c3, .slice a4 ys.length c4] 27) = W at *
  have HM := Lib.hid (S1.out _ hB0)
  have HB0 := Lib.hid hB0
  have HG := Lib.hid (And.intro g1 g2)
  have x0 := cell_of_row _ _ 0 _ _ (0, 0) g1
  have x1 := cell_of_row _ _ 1 _ _ (0, 0) g1
  have x2 := cell_of_row _ _ 2 _ _ (0, 0) g1
  have y0 := cell_of_row _ _ 0 _ _ (0, 0) g2
  have y1 := cell_of_row _ _ 1 _ _ (0, 0) g2
  have y2 := cell_of_row _ _ 2 _ _ (0, 0) g2
  have HS0 := Lib.hid (show w.heap.size ≤ W.heap.size by omega)
  clear g1 g2 hB0 hsz
  go_wp2_with fail
  refine HM.out.mono ?_
  rintro e w2 ⟨rfl, m, hw⟩
  have hb : Below W.heap.size W w2 := by rw [hw]; exact below_drewN (Below.refl _ _) _
  have g1 := block_of hb HG.out.1
  have g2 := block_of hb HG.out.2
  have HB2 := Lib.hid (HB0.out.trans (hb.mono HS0.out))
  have HM2 := Lib.hid (S2.out _ HB2.out)
  have x2 := cell_of_row _ _ 2 _ _ (0, 0) g1
  have y2 := cell_of_row _ _ 2 _ _ (0, 0) g2
  clear hw hb g1 g2
  go_wp2_with fail
  refine HM2.out.mono ?_
  rintro e w3 ⟨rfl, m2, hw⟩
  have HB3 := Lib.hid (show Below w.heap.size w w3 by rw [hw]; exact below_drewN HB2.out _)
  clear hw
  go_wp2_with fail
  go_ret
  exact ⟨rfl, HB3.out⟩

end Go.Proofs.YthlpfhenaakljaaGreatDoor

namespace Go.Proofs.YthlpfhenaakljaaGreatDoor
open Go.RowKit

/-- More than a statement goes over. -/
def longQ (q : Tq) : Bool := decide (6 < q.2.1.length) || decide (6 < q.2.2.length)

set_option maxHeartbeats 1600000 in
theorem long_calls (v : Value) (qs : List Tq) (w : World) (hv : Lv w v qs) (hl : qs.length ≤ 4611686018427387904) :
    Calls Tryz.prog 4 #[v] w (fun e w' => e = .returned (.bool (qs.any longQ)) ∧ w = w') := by
  obtain ⟨a, cap, rfl, hcap, hr⟩ := hv
  have HR := Lib.hid hr
  clear hr
  go_enter Tryz.func4, Tryz.ntmps4
  go_wp2_with fail
  go_loop [3] (fun s => ∃ k : Nat, k ≤ qs.length ∧ s = .int .i64 k ∧ Hid (∀ i q, i < k → qs[i]? = some q → longQ q = false)) (fun s => qs.length - (intOf s).toNat)
  case atStart => exact ⟨0, Nat.zero_le _, rfl, Lib.hid (fun i q h => by omega)⟩
  case round =>
    obtain ⟨k, hk, rfl, hP⟩ := hrel
    by_cases hkl : k < qs.length
    · have hq := List.getElem?_eq_getElem hkl
      have hmem := List.getElem_mem hkl
      have HQ := Lib.hid hq
      have HM := Lib.hid hmem
      rcases HR.out with rfl | ⟨b, off, rfl, hlt, hc⟩
      · simp at hkl
      have hqc := hc k _ hq
      generalize qs[k] = q at *
      obtain ⟨m1, m2, t0, t1, t2, n1, n2⟩ := hqc
      obtain ⟨_, b1, e1, rfl, _, _⟩ := n1
      obtain ⟨_, b2, e2, rfl, _, _⟩ := n2
      have hkl2 : (k : Int) < qs.length := by omega
      clear hc hq hmem
      by_cases h1 : 6 < q.2.1.length
      · have hd1 : ((q.2.1.length : Int) > 6) := by omega
        have HE := Lib.hid (show qs.any longQ = true from List.any_eq_true.2 ⟨q, HM.out, by unfold longQ; rw [decide_eq_true h1]; rfl⟩)
        go_wp2_with fail
        go_ret
        exact ⟨by rw [HE.out]; rfl, rfl⟩
      · have hd1 : ¬ ((q.2.1.length : Int) > 6) := by omega
        by_cases h2 : 6 < q.2.2.length
        · have hd2 : ((q.2.2.length : Int) > 6) := by omega
          have HE := Lib.hid (show qs.any longQ = true from List.any_eq_true.2 ⟨q, HM.out, by unfold longQ; rw [decide_eq_true h2, Bool.or_true]⟩)
          go_wp2_with fail
          go_ret
          exact ⟨by rw [HE.out]; rfl, rfl⟩
        · have hd2 : ¬ ((q.2.2.length : Int) > 6) := by omega
          have HF := Lib.hid (show longQ q = false by unfold longQ; rw [decide_eq_false h1, decide_eq_false h2]; rfl)
          have HP2 := Lib.hid (show ∀ i q, i < k + 1 → qs[i]? = some q → longQ q = false from fun i p hi hp => by
            rcases Nat.lt_or_ge i k with h | h
            · exact hP.out i p h hp
            · obtain rfl : i = k := by omega
              rw [HQ.out] at hp
              obtain rfl := Option.some.inj hp
              exact HF.out)
          go_wp2_with fail
          go_round
          case rel => exact ⟨k + 1, hkl, by go_num, HP2⟩
          case measure => simp only [intOf]; omega
    · have HE := Lib.hid (show qs.any longQ = false from List.any_eq_false.2 fun q hq => by
        obtain ⟨i, hi, rfl⟩ := List.getElem_of_mem hq
        rw [hP.out i _ (by omega) (List.getElem?_eq_getElem hi)]; simp)
      have hkl2 : ¬ ((k : Int) < qs.length) := by omega
      go_wp2_with fail
      go_ret
      exact ⟨by rw [HE.out]; rfl, rfl⟩

/-- Cells that may be written over: n of them. -/
def SpR (B n : Nat) (w : World) (v : Value) : Prop :=
  (∃ c, v = .slice none 0 c ∧ n = 0) ∨ ∃ g c cur t, v = .slice (some ⟨g, 0, none⟩) n c ∧ B ≤ g ∧ w.heap[g]? = some (.cells cur t (0, 0)) ∧ n ≤ cur.size

theorem No.spr {B : Nat} {w : World} {v : Value} {xs : List Nat} (h : No B w v xs) : SpR B xs.length w v := by
  obtain ⟨_, _, h⟩ := h
  rcases h with ⟨rfl, h0⟩ | ⟨g, cap, cur, rfl, hb, hg, hn, _, hs, _⟩
  · exact .inl ⟨0, rfl, h0⟩
  · exact .inr ⟨g, cap, cur, _, rfl, hb, hg, by omega⟩

theorem SpR.set {B n g k : Nat} {w : World} {v u : Value} {cur : Array Value} {t : TypeId} (h : SpR B n w v) (hg : w.heap[g]? = some (.cells cur t (0, 0))) : SpR B n (w.setCell ⟨g, k, none⟩ u) v := by
  rcases h with h | ⟨g2, c, cur2, t2, rfl, hb, hh, hn⟩
  · exact .inl h
  · by_cases he : g2 = g
    · subst he
      rw [hh] at hg
      exact .inr ⟨g2, c, _, t2, rfl, hb, heap_setCell_same _ g2 k cur2 t2 u hh, by simpa using hn⟩
    · exact .inr ⟨g2, c, cur2, t2, rfl, hb, by rw [heap_setCell_other _ _ _ _ he]; exact hh, hn⟩
theorem SpR.alloc {B n : Nat} {w : World} {v : Value} (h : SpR B n w v) (o : Obj) : SpR B n (w.alloc o) v := by
  rcases h with h | ⟨g2, c, cur2, t2, rfl, hb, hh, hn⟩
  · exact .inl h
  · exact .inr ⟨g2, c, cur2, t2, rfl, hb, (heap_alloc_old _ _ (heap_lt hh)).trans hh, hn⟩

end Go.Proofs.YthlpfhenaakljaaGreatDoor

namespace Go.Proofs.YthlpfhenaakljaaGreatDoor
open Go.RowKit

/-- In the loops of spoil. -/
structure SpSt (w : World) (B j1 : Nat) (cs : Array Value) (n1 n2 : Nat) (v1 v2 : Value) (wr : World) : Prop where
  bel : Below B w wr
  box : wr.heap[j1]? = some (.cells cs 27 (0, 0))
  s1 : SpR B n1 wr v1
  s2 : SpR B n2 wr v2

theorem SpSt.set {w wr : World} {B j1 g k : Nat} {cs : Array Value} {n1 n2 : Nat} {v1 v2 u : Value} {cur : Array Value} {t : TypeId} (h : SpSt w B j1 cs n1 n2 v1 v2 wr) (hg : wr.heap[g]? = some (.cells cur t (0, 0))) (hB : B ≤ g) (hne : j1 ≠ g) :
    SpSt w B j1 cs n1 n2 v1 v2 (wr.setCell ⟨g, k, none⟩ u) :=
  ⟨h.bel.setCell hB _, by rw [heap_setCell_other _ _ _ _ hne]; exact h.box, h.s1.set hg, h.s2.set hg⟩

set_option maxHeartbeats 1600000 in
theorem spoil_calls (b : Bool) (v1 v2 : Value) (xs ys : List Nat) (B : Nat) (w : World) (h1 : No B w v1 xs) (h2 : No B w v2 ys) (hB : B ≤ w.heap.size) (l1 : xs.length ≤ 4611686018427387904) (l2 : ys.length ≤ 4611686018427387904) :
    Calls Tryz.prog 19 #[.agg #[.bool b, v1, v2]] w (fun e w' => e = .returned (.tuple #[]) ∧ Below B w w') := by
  obtain ⟨a1, c1, rfl⟩ := h1.slice
  obtain ⟨a2, c2, rfl⟩ := h2.slice
  have HL1 := Lib.hid h1.lt
  have HL2 := Lib.hid h2.lt
  have HST := Lib.hid (show SpSt w B w.heap.size #[.bool b, .slice a1 xs.length c1, .slice a2 ys.length c2] xs.length ys.length (.slice a1 xs.length c1) (.slice a2 ys.length c2) (w.alloc (.cells #[.bool b, .slice a1 xs.length c1, .slice a2 ys.length c2] 27)) from
    ⟨(Below.refl _ _).alloc hB _, heap_alloc_new _ _, h1.spr.alloc _, h2.spr.alloc _⟩)
  clear h1 h2 hB
  generalize xs.length = n1 at *
  generalize ys.length = n2 at *
  go_enter Tryz.func19, Tryz.ntmps19
  go_upto_region 1 with fail
  generalize w.alloc (.cells #[.bool b, .slice a1 n1 c1, .slice a2 n2 c2] 27) = W at *
  generalize w.heap.size = j1 at *
  go_wp2_with fail
  go_loopw [2] (fun s wr => ∃ k : Nat, k ≤ n1 ∧ s = .int .i64 k ∧ Hid (SpSt w B j1 #[.bool b, .slice a1 n1 c1, .slice a2 n2 c2] n1 n2 (.slice a1 n1 c1) (.slice a2 n2 c2) wr)) (fun s _ => n1 - (intOf s).toNat)
  case atStart => exact ⟨0, Nat.zero_le _, rfl, HST⟩
  case round =>
    clear HST
    obtain ⟨k, hk, rfl, HST⟩ := hrel
    have x0 := cell_of_row _ _ 0 _ _ (0, 0) HST.out.box
    have x1 := cell_of_row _ _ 1 _ _ (0, 0) HST.out.box
    have x2 := cell_of_row _ _ 2 _ _ (0, 0) HST.out.box
    by_cases hkn : k < n1
    · rcases HST.out.s1 with ⟨c, he, h0⟩ | ⟨g, c, cur, t, he, hBg, hh, hn⟩
      · omega
      obtain ⟨rfl, -, rfl⟩ := Value.slice.inj he
      have hgj : j1 ≠ g := fun h => by have := (HL1.out g rfl).2; omega
      obtain ⟨u, hu⟩ : ∃ u, cur[k]? = some u := ⟨cur[k]'(by omega), Array.getElem?_eq_getElem (by omega)⟩
      have hc := cell_of_row _ _ k _ _ (0, 0) hh
      rw [hu] at hc
      have hf := frozen_of_row _ _ k _ _ hh
      have HS2 := Lib.hid (fun u => HST.out.set (k := k) (u := u) hh hBg hgj)
      have hkn2 : (k : Int) < n1 := by omega
      clear he hu hh
      go_wp2_with fail
      go_roundw
      case rel => exact ⟨k + 1, hkn, by go_num, Lib.hid (HS2.out _)⟩
      case measure => simp only [intOf]; omega
    · have hkn2 : ¬ ((k : Int) < n1) := by omega
      clear x0 x1 x2
      have x0 := cell_of_row _ _ 0 _ _ (0, 0) HST.out.box
      have x1 := cell_of_row _ _ 1 _ _ (0, 0) HST.out.box
      have x2 := cell_of_row _ _ 2 _ _ (0, 0) HST.out.box
      go_wp2_with fail
      go_loopw [3] (fun s wr => ∃ k : Nat, k ≤ n2 ∧ s = .int .i64 k ∧ Hid (SpSt w B j1 #[.bool b, .slice a1 n1 c1, .slice a2 n2 c2] n1 n2 (.slice a1 n1 c1) (.slice a2 n2 c2) wr)) (fun s _ => n2 - (intOf s).toNat)
      case atStart => exact ⟨0, Nat.zero_le _, rfl, HST⟩
      case round =>
        clear HST x0 x1 x2
        obtain ⟨k2, hk2, rfl, HST⟩ := hrel
        have x0 := cell_of_row _ _ 0 _ _ (0, 0) HST.out.box
        have x1 := cell_of_row _ _ 1 _ _ (0, 0) HST.out.box
        have x2 := cell_of_row _ _ 2 _ _ (0, 0) HST.out.box
        by_cases hkm : k2 < n2
        · rcases HST.out.s2 with ⟨c, he, h0⟩ | ⟨g, c, cur, t, he, hBg, hh, hn⟩
          · omega
          obtain ⟨rfl, -, rfl⟩ := Value.slice.inj he
          have hgj : j1 ≠ g := fun h => by have := (HL2.out g rfl).2; omega
          obtain ⟨u, hu⟩ : ∃ u, cur[k2]? = some u := ⟨cur[k2]'(by omega), Array.getElem?_eq_getElem (by omega)⟩
          have hc := cell_of_row _ _ k2 _ _ (0, 0) hh
          rw [hu] at hc
          have hf := frozen_of_row _ _ k2 _ _ hh
          have HS2 := Lib.hid (fun u => HST.out.set (k := k2) (u := u) hh hBg hgj)
          have hkm2 : (k2 : Int) < n2 := by omega
          clear he hu hh
          go_wp2_with fail
          go_roundw
          case rel => exact ⟨k2 + 1, hkm, by go_num, Lib.hid (HS2.out _)⟩
          case measure => simp only [intOf]; omega
        · have hkm2 : ¬ ((k2 : Int) < n2) := by omega
          go_wp2_with fail
          refine bodyPost_end (results_none rfl _ _ _) rfl ?_
          exact ⟨rfl, HST.out.bel⟩

end Go.Proofs.YthlpfhenaakljaaGreatDoor

namespace Go.Proofs.YthlpfhenaakljaaGreatDoor
open Go.RowKit

/-- Two boxes of whole numbers beside the result's block. -/
structure OvSt (wb : World) (j q5 q6 : Nat) (c5 c6 : Array Value) (wx : World) : Prop where
  bel : Below wb.heap.size wb wx
  r : wx.heap[j]? = some (.cells #[.bool false, .slice none 0 0, .slice none 0 0] 27 (0, 0))
  r5 : wx.heap[q5]? = some (.cells c5 25 (0, 0))
  r6 : wx.heap[q6]? = some (.cells c6 25 (0, 0))
theorem OvSt.call {wb wx wy : World} {j q5 q6 : Nat} {c5 c6 : Array Value} (h : OvSt wb j q5 q6 c5 c6 wx) (hb : Below wx.heap.size wx wy) : OvSt wb j q5 q6 c5 c6 wy :=
  ⟨h.bel.trans (hb.mono h.bel.size), block_of hb h.r, block_of hb h.r5, block_of hb h.r6⟩
theorem OvSt.drew {wb wx : World} {j q5 q6 : Nat} {c5 c6 : Array Value} (h : OvSt wb j q5 q6 c5 c6 wx) : OvSt wb j q5 q6 c5 c6 wx.drew := ⟨h.bel.drew, h.r, h.r5, h.r6⟩

/-- A quotient of two numbers. -/
def ovZ (n d : Int) : Int := sgn (!(decide (n < 0) == decide (d < 0))) n.natAbs

theorem db64_int {n : Int} (h1 : -9223372036854775808 ≤ n) (h2 : n ≤ 9223372036854775807) : (Dg.db B64 n.natAbs).length ≤ 1 := Dg.db_length (by decide) (by rw [Nat.pow_one]; unfold B64; omega)

set_option maxHeartbeats 3200000 in
theorem rover_calls (n d : Int) (w : World) (n1 : -9223372036854775808 ≤ n) (n2 : n ≤ 9223372036854775807) (d1 : -9223372036854775808 ≤ d) (d2 : d ≤ 9223372036854775807) (h0 : d ≠ 0) :
    Calls Tryz.prog 47 #[.int .i64 n, .int .i64 d] w (fun e w' => ∃ v, e = .returned (.tuple #[v, .int .i64 0]) ∧ RR (nrm (ovZ n d) d.natAbs) (nrd (ovZ n d) d.natAbs) w.heap.size w' v ∧ Below w.heap.size w w') := by
  have O1 := Lib.hid (fun wx => wof_calls n wx n1 n2)
  have O2 := Lib.hid (fun wx => wof_calls d wx d1 d2)
  have L1 := Lib.hid (db64_int n1 n2)
  have L2 := Lib.hid (db64_int d1 d2)
  have H0 := Lib.hid (show d.natAbs ≠ 0 by omega)
  have LZ := Lib.hid (show (Dg.db B64 (ovZ n d).natAbs).length ≤ 549755813888 by unfold ovZ; rw [sgn_abs]; exact Nat.le_trans L1.out (by decide))
  have HOV := Lib.hid (show sgn (!(decide (n < 0) == decide (d < 0))) n.natAbs = ovZ n d from rfl)
  generalize hZ : nrm (ovZ n d) d.natAbs = Z at *
  generalize hD : nrd (ovZ n d) d.natAbs = D at *
  have HZD := Lib.hid (And.intro hZ hD)
  clear hZ hD n1 n2 d1 d2 h0
  generalize ovZ n d = OZ at *
  go_enter Tryz.func47, Tryz.ntmps47
  go_upto_region 1 with fail
  obtain ⟨g1, hB0, hsz⟩ := one_block w (.cells #[.bool false, .slice none 0 0, .slice none 0 0] 27)
  generalize w.alloc (.cells #[.bool false, .slice none 0 0, .slice none 0 0] 27) = W at *
  have HG := Lib.hid g1
  have HB0 := Lib.hid (show Bel w W from hB0)
  have HS := Lib.hid hsz
  clear g1 hB0 hsz
  generalize hj : w.heap.size = j1 at *
  have HJ := Lib.hid hj
  clear hj
  go_wp2_with fail
  refine (O1.out _).mono ?_
  rintro e w2 ⟨v, rfl, hno, hb⟩
  obtain ⟨a3, c3, rfl⟩ := hno.slice
  have HN := Lib.hid hno.nv
  have HG2 := Lib.hid (block_of hb HG.out)
  have HB2 := Lib.hid (show Bel w w2 from HB0.out.trans (hb.mono HB0.out.size))
  clear hno hb
  go_wp2_with fail
  refine (O2.out _).mono ?_
  rintro e w3 ⟨v, rfl, hno, hb⟩
  obtain ⟨a4, c4, rfl⟩ := hno.slice
  have HDN := Lib.hid hno.nv
  have HN := Lib.hid (HN.out.below hb)
  have HG3 := Lib.hid (block_of hb HG2.out)
  have HB3 := Lib.hid (show Bel w w3 from HB2.out.trans (hb.mono HB2.out.size))
  obtain ⟨g5, g6, hB5, hs5⟩ := two_blocks w3 (.cells #[.bool false, .slice none 0 0] 25) (.cells #[.bool false, .slice none 0 0] 25)
  have g3 := block_of hB5 HG3.out
  have f50 := frozen_of_row _ _ 0 _ _ g5
  have f51 := frozen_of_row _ _ 1 _ _ g5
  have f60 := frozen_of_row _ _ 0 _ _ g6
  have f61 := frozen_of_row _ _ 1 _ _ g6
  have c50 := cell_of_row _ _ 0 _ _ (0, 0) g5
  have c51 := cell_of_row _ _ 1 _ _ (0, 0) g5
  have c60 := cell_of_row _ _ 0 _ _ (0, 0) g6
  have c61 := cell_of_row _ _ 1 _ _ (0, 0) g6
  have hn56 : w3.heap.size ≠ w3.heap.size + 1 := by omega
  have hn65 : w3.heap.size + 1 ≠ w3.heap.size := by omega
  have HG56 := Lib.hid (And.intro g5 (And.intro g6 (And.intro g3 (And.intro hB5 (show j1 < w3.heap.size from heap_lt HG3.out)))))
  clear hno hb g5 g6 g3 hB5 hs5
  generalize hs1 : decide (n < 0) = s1 at *
  generalize hs2 : decide (d < 0) = s2 at *
  clear hs1 hs2
  go_upto_region 2 with fail
  obtain ⟨g5, g6, hB5, hs5⟩ := two_blocks w3 (.cells #[.bool s1, .slice a3 (Dg.db B64 n.natAbs).length c3] 25) (.cells #[.bool s2, .slice a4 (Dg.db B64 d.natAbs).length c4] 25)
  have g3 := block_of hB5 HG3.out
  have HJ3 := Lib.hid (heap_lt HG3.out)
  generalize (w3.alloc (.cells #[.bool s1, .slice a3 (Dg.db B64 n.natAbs).length c3] 25)).alloc (.cells #[.bool s2, .slice a4 (Dg.db B64 d.natAbs).length c4] 25) = W5 at *
  clear f50 f51 f60 f61 c50 c51 c60 c61 HG56
  have nj5 : j1 ≠ w3.heap.size := Nat.ne_of_lt HJ3.out
  have nj6 : j1 ≠ w3.heap.size + 1 := by have := HJ3.out; omega
  have n5j := Ne.symm nj5
  have n6j := Ne.symm nj6
  have HN5 := Lib.hid (HN.out.below hB5)
  have HD5 := Lib.hid (HDN.out.below hB5)
  have HB5 := Lib.hid (show Bel w W5 from HB3.out.trans (hB5.mono HB3.out.size))
  have HST := Lib.hid (show OvSt W5 j1 w3.heap.size (w3.heap.size + 1) #[.bool s1, .slice a3 (Dg.db B64 n.natAbs).length c3] #[.bool s2, .slice a4 (Dg.db B64 d.natAbs).length c4] W5 from ⟨Below.refl _ _, g3, g5, g6⟩)
  have HJ5 := Lib.hid (heap_lt g3)
  clear hB5 hs5 g3 g5 g6
  generalize w3.heap.size + 1 = q6 at *
  generalize w3.heap.size = q5 at *
  have x0 := cell_of_row _ _ 0 _ _ (0, 0) HST.out.r5
  have x1 := cell_of_row _ _ 1 _ _ (0, 0) HST.out.r5
  have y0 := cell_of_row _ _ 0 _ _ (0, 0) HST.out.r6
  have y1 := cell_of_row _ _ 1 _ _ (0, 0) HST.out.r6
  go_region_held3 (fun w' => w'.cell? ⟨q5, 0, none⟩ = some (.bool s1) ∧ w'.cell? ⟨q5, 1, none⟩ = some (.slice a3 (Dg.db B64 n.natAbs).length c3) ∧ w'.cell? ⟨q6, 0, none⟩ = some (.bool s2) ∧ w'.cell? ⟨q6, 1, none⟩ = some (.slice a4 (Dg.db B64 d.natAbs).length c4)) (go_keep)
    (first
      | (go_at_call 32
         refine Calls.mono (wmake_calls (!(s1 == s2)) _ _ _ (HN5.out.below (Below.refl _ _).drew) (Nat.le_trans L1.out (by decide))) ?_
         rintro e w6 ⟨v, rfl, hno, hb⟩
         rw [Dg.dv_db (by decide), HOV.out] at hno ⊢
         obtain ⟨a7, c7, rfl⟩ := hno.slice
         have HNZ := Lib.hid hno.nv
         have HDZ := Lib.hid (Nv.below (HD5.out.below (Below.refl _ _).drew) hb)
         have HST := Lib.hid (HST.out.drew.call hb)
         have x0 := cell_of_row _ _ 0 _ _ (0, 0) HST.out.r5
         have x1 := cell_of_row _ _ 1 _ _ (0, 0) HST.out.r5
         have y0 := cell_of_row _ _ 0 _ _ (0, 0) HST.out.r6
         have y1 := cell_of_row _ _ 1 _ _ (0, 0) HST.out.r6
         clear hno hb)
      | (go_at_call 23
         refine Calls.mono (rmake_calls _ _ _ _ _ _ HNZ.out HDZ.out LZ.out (Nat.le_trans L2.out (by decide))) ?_
         rintro e w7 ⟨hb, _, hq⟩
         rw [Dg.dv_db (by decide), Dg.dv_db (by decide)] at hq
         obtain ⟨v, rfl, hr⟩ := hq H0.out
         rw [(rr_nrm H0.out).1, (rr_nrm H0.out).2, HZD.out.1, HZD.out.2] at hr
         obtain ⟨vn, vd, rfl, hn, hdn⟩ := hr
         obtain ⟨a9, c9, rfl⟩ := hn.slice
         obtain ⟨aA, cA, rfl⟩ := hdn.slice
         have HN9 := Lib.hid hn
         have HD9 := Lib.hid hdn
         have HJ6 := Lib.hid (heap_lt HST.out.r)
         have HST := Lib.hid (HST.out.call hb)
         have x0 := cell_of_row _ _ 0 _ _ (0, 0) HST.out.r5
         have x1 := cell_of_row _ _ 1 _ _ (0, 0) HST.out.r5
         have y0 := cell_of_row _ _ 0 _ _ (0, 0) HST.out.r6
         have y1 := cell_of_row _ _ 1 _ _ (0, 0) HST.out.r6
         have t0 := frozen_of_row _ _ 0 _ _ HST.out.r
         have t1 := frozen_of_row _ _ 1 _ _ HST.out.r
         have t2 := frozen_of_row _ _ 2 _ _ HST.out.r
         have v0 := cell_of_row _ _ 0 _ _ (0, 0) HST.out.r
         have v1 := cell_of_row _ _ 1 _ _ (0, 0) HST.out.r
         have v2 := cell_of_row _ _ 2 _ _ (0, 0) HST.out.r
         clear hq hn hdn hb))
  go_wp2_with fail
  refine ret_row_tmp rfl _ _ j1 27 _ (0, 0) rfl (stored3 HST.out.r _ _ _) und_Rat size_Rat ?_
  have hB : Below w.heap.size w w7 := HB5.out.trans (HST.out.bel.mono HB5.out.size)
  have hge : w.heap.size ≤ j1 := by rw [HJ.out]; exact Nat.le_refl _
  exact ⟨_, rfl, ⟨_, _, rfl, (filled3 hB hge _ _ _).2 _ _ _ HJ6.out HN9.out, (filled3 hB hge _ _ _).2 _ _ _ HJ6.out HD9.out⟩, (filled3 hB hge _ _ _).1⟩

set_option maxHeartbeats 1600000 in
theorem lover_calls (n d : Int) (w : World) (n1 : -9223372036854775808 ≤ n) (n2 : n ≤ 9223372036854775807) (d1 : -9223372036854775808 ≤ d) (d2 : d ≤ 9223372036854775807) (h0 : d ≠ 0) :
    Calls Tryz.prog 24 #[.int .i64 n, .int .i64 d] w (RetR (nrm (ovZ n d) d.natAbs) (nrd (ovZ n d) d.natAbs) w) := by
  have CO := Lib.hid (fun wx => rover_calls n d wx n1 n2 d1 d2 h0)
  clear n1 n2 d1 d2 h0
  generalize nrm (ovZ n d) d.natAbs = z at *
  generalize nrd (ovZ n d) d.natAbs = dd at *
  go_enter Tryz.func24, Tryz.ntmps24
  go_upto_region 1 with fail
  obtain ⟨g1, hB0, hsz⟩ := one_block w (.cells #[.bool false, .slice none 0 0, .slice none 0 0] 27)
  generalize w.alloc (.cells #[.bool false, .slice none 0 0, .slice none 0 0] 27) = W at *
  have HM := Lib.hid (CO.out W)
  have HG2 := Lib.hid g1
  have HB0 := Lib.hid hB0
  have HS0 := Lib.hid hsz
  clear g1 hB0 hsz CO
  generalize hj : w.heap.size = j3 at *
  have HJ := Lib.hid hj
  clear hj
  go_wp2_with fail
  refine HM.out.mono ?_
  rintro e w2 ⟨v, rfl, ⟨vn, vd, rfl, hn, hdn⟩, hb⟩
  obtain ⟨a5, c5, rfl⟩ := hn.slice
  obtain ⟨a6, c6, rfl⟩ := hdn.slice
  have HB2 := Lib.hid (show Below w.heap.size w w2 by rw [HJ.out]; exact HB0.out.trans (hb.mono (Nat.le_of_lt HS0.out)))
  have HG3 := Lib.hid (block_of hb HG2.out)
  have hge : w.heap.size ≤ j3 := by rw [HJ.out]; exact Nat.le_refl _
  have HE := Lib.hid (fun u => endC (u := u) HB2.out HG3.out hn hdn (heap_lt HG2.out) (heap_lt HG2.out) hge)
  have ga := heap_alloc_new w2 (.cells #[.bool false, .slice none 0 0, .slice none 0 0] 27)
  have e0 := frozen_of_row _ _ 0 _ _ ga
  have e1 := frozen_of_row _ _ 1 _ _ ga
  have e2 := frozen_of_row _ _ 2 _ _ ga
  have r0 := cell_of_row _ _ 0 _ _ (0, 0) ga
  have r1 := cell_of_row _ _ 1 _ _ (0, 0) ga
  have r2 := cell_of_row _ _ 2 _ _ (0, 0) ga
  have hg3 := fun (o : Obj) => (heap_alloc_old w2 o (heap_lt HG3.out)).trans HG3.out
  have t0 := fun (o : Obj) => frozen_of_row _ _ 0 _ _ (hg3 o)
  have t1 := fun (o : Obj) => frozen_of_row _ _ 1 _ _ (hg3 o)
  have t2 := fun (o : Obj) => frozen_of_row _ _ 2 _ _ (hg3 o)
  have v0 := fun (o : Obj) => cell_of_row _ _ 0 _ _ (0, 0) (hg3 o)
  have v1 := fun (o : Obj) => cell_of_row _ _ 1 _ _ (0, 0) (hg3 o)
  have v2 := fun (o : Obj) => cell_of_row _ _ 2 _ _ (0, 0) (hg3 o)
  clear hb ga hg3 hn hdn hge
  generalize hze : decide (z < 0) = bb at *
  have HZE := Lib.hid hze
  clear hze
  go_wp2_with fail
  refine ret_row rfl _ _ j3 27 _ (0, 0) rfl (stored3 (HE.out _).r3 _ _ _) und_Rat size_Rat ?_
  have hE := HE.out (.bool bb)
  exact ⟨_, rfl, ⟨_, _, by rw [HZE.out], (filled3 hE.bel hE.ge _ _ _).2 _ _ _ (Nat.lt_succ_self _) hE.hn, (filled3 hE.bel hE.ge _ _ _).2 _ _ _ (Nat.lt_succ_self _) hE.hd⟩, (filled3 hE.bel hE.ge _ _ _).1⟩


end Go.Proofs.YthlpfhenaakljaaGreatDoor

namespace Go.Proofs.YthlpfhenaakljaaGreatDoor
open Go.RowKit

set_option maxHeartbeats 1600000 in
theorem half_calls (s : Nat) (N : Int) (hN : N = (s : Int)) (w : World) (hs : s ≤ 63) :
    Calls Tryz.prog 27 #[.int .i64 N] w (fun e w' => ∃ v, e = .returned (.tuple #[v, .int .i64 0]) ∧ RR 1 (2 ^ s) w.heap.size w' v ∧ Below w.heap.size w w') := by
  have CS := Lib.hid (fun wx v (hv : Nv wx v (Dg.db B64 1)) => shl_ok v _ s N hN wx hv (by rw [db_one]; decide) hs)
  rw [Dg.dv_db (by decide), Nat.one_mul] at CS
  generalize 2 ^ s = P at *
  generalize hO : (1 : Int) = o1 at *
  have CO := Lib.hid (fun wx => wof_calls o1 wx (by rw [← hO]; decide) (by rw [← hO]; decide))
  have HO := Lib.hid hO
  go_enter Tryz.func27, Tryz.ntmps27
  go_upto_region 1 with fail
  obtain ⟨g1, hB0, hsz⟩ := one_block w (.cells #[.bool false, .slice none 0 0, .slice none 0 0] 27)
  generalize w.alloc (.cells #[.bool false, .slice none 0 0, .slice none 0 0] 27) = W at *
  have HG := Lib.hid g1
  have HB0 := Lib.hid (show Bel w W from hB0)
  have HS := Lib.hid hsz
  clear g1 hB0 hsz
  generalize hj : w.heap.size = j1 at *
  have HJ := Lib.hid hj
  clear hj hN hs
  go_wp2_with fail
  refine (one_of_calls _).mono ?_
  rintro e w2 ⟨v, rfl, hno, hb⟩
  obtain ⟨a3, c3, rfl⟩ := hno.slice
  have HN := Lib.hid hno.nv
  have HG2 := Lib.hid (block_of hb HG.out)
  have HB2 := Lib.hid (show Bel w w2 from HB0.out.trans (hb.mono HB0.out.size))
  clear hno hb
  go_wp2_with fail
  refine (CS.out _ _ HN.out).mono ?_
  rintro e w3 ⟨v, rfl, hno, hb⟩
  obtain ⟨a4, c4, rfl⟩ := hno.slice
  have HP := Lib.hid hno
  have HLT := Lib.hid (heap_lt HG2.out)
  have HG3 := Lib.hid (block_of hb HG2.out)
  have HB3 := Lib.hid (show Bel w w3 from HB2.out.trans (hb.mono HB2.out.size))
  clear hno hb
  go_wp2_with fail
  refine (CO.out _).mono ?_
  rintro e w4 ⟨v, rfl, hno, hb⟩
  obtain ⟨a5, c5, rfl⟩ := hno.slice
  have HLT4 := Lib.hid (heap_lt HG3.out)
  have hg4 := block_of hb HG3.out
  have HG4 := Lib.hid hg4
  have HB4 := Lib.hid (show Bel w w4 from HB3.out.trans (hb.mono HB3.out.size))
  have HP := Lib.hid (HP.out.below hb)
  have HN1 := Lib.hid hno
  have t0 := frozen_of_row _ _ 0 _ _ hg4
  have t1 := frozen_of_row _ _ 1 _ _ hg4
  have t2 := frozen_of_row _ _ 2 _ _ hg4
  have v0 := cell_of_row _ _ 0 _ _ (0, 0) hg4
  have v1 := cell_of_row _ _ 1 _ _ (0, 0) hg4
  have v2 := cell_of_row _ _ 2 _ _ (0, 0) hg4
  clear hno hb hg4 hO
  generalize hze : decide (o1 < 0) = bb at *
  have HZE := Lib.hid hze
  clear hze
  go_wp2_with fail
  refine ret_row_tmp rfl _ _ j1 27 _ (0, 0) rfl (stored3 HG4.out _ _ _) und_Rat size_Rat ?_
  have hge : w.heap.size ≤ j1 := by rw [HJ.out]; exact Nat.le_refl _
  exact ⟨_, rfl, ⟨_, _, by rw [HZE.out], (filled3 HB4.out hge _ _ _).2 _ _ _ HLT4.out HN1.out, (filled3 HB4.out hge _ _ _).2 _ _ _ HLT.out HP.out⟩, (filled3 HB4.out hge _ _ _).1⟩

/-- In the loop of a power. -/
def PowAt (V n m O S : Nat) : Prop := O ≠ 0 ∧ S ≠ 0 ∧ O * S ^ m = V ^ n
theorem PowAt.start (V n : Nat) (h : V ≠ 0) : PowAt V n n 1 V := ⟨by decide, h, by rw [Nat.one_mul]⟩
theorem PowAt.lo {V n m O S : Nat} (h : PowAt V n m O S) : O ≤ V ^ n := by
  rw [← h.2.2]; exact Nat.le_mul_of_pos_right _ (Nat.pow_pos (by have := h.2.1; omega))
theorem PowAt.ls {V n m O S : Nat} (h : PowAt V n m O S) (hm : 0 < m) : S ≤ V ^ n := by
  rw [← h.2.2]
  refine Nat.le_trans ?_ (Nat.le_mul_of_pos_left _ (by have := h.1; omega))
  have := Nat.pow_le_pow_right (n := S) (by have := h.2.1; omega) (show 1 ≤ m by omega)
  rwa [Nat.pow_one] at this
theorem PowAt.done {V n O S : Nat} (h : PowAt V n 0 O S) : O = V ^ n := by have := h.2.2; rwa [Nat.pow_zero, Nat.mul_one] at this
theorem PowAt.even {V n m O S : Nat} (h : PowAt V n m O S) (hm : m % 2 = 0) (_ : 1 < m) : PowAt V n (m / 2) O (S * S) := by
  refine ⟨h.1, Nat.mul_ne_zero h.2.1 h.2.1, ?_⟩
  rw [← h.2.2, ← Nat.pow_two, ← Nat.pow_mul]
  congr 2; omega
theorem PowAt.odd {V n m O S : Nat} (h : PowAt V n m O S) (hm : m % 2 = 1) (_ : 1 < m) : PowAt V n (m / 2) (O * S) (S * S) := by
  refine ⟨Nat.mul_ne_zero h.1 h.2.1, Nat.mul_ne_zero h.2.1 h.2.1, ?_⟩
  rw [← h.2.2, ← Nat.pow_two, ← Nat.pow_mul, Nat.mul_assoc]
  congr 1
  rw [← Nat.pow_succ']
  congr 1; omega
theorem PowAt.one {V n m O S : Nat} (h : PowAt V n m O S) (hm : m = 1) : PowAt V n (m / 2) (O * S) S := by
  subst hm
  refine ⟨Nat.mul_ne_zero h.1 h.2.1, h.2.1, ?_⟩
  rw [← h.2.2]; simp

set_option maxRecDepth 100000 in
set_option maxHeartbeats 3200000 in
theorem pow_calls (v : Value) (xs : List Nat) (n : Nat) (N : Int) (hN : N = (n : Int)) (w : World) (hv : Nv w v xs) (hl : xs.length ≤ 1000) (h0 : Dg.dv B64 xs ≠ 0) (hn : n ≤ 1048576 / Dg.bl (Dg.dv B64 xs)) (hb : Dg.bl (Dg.dv B64 xs) ≤ 1000000)
    (hlen : (Dg.db B64 (Dg.dv B64 xs ^ n)).length ≤ 1000000) :
    Calls Tryz.prog 56 #[v, .int .i64 N] w (fun e w' => ∃ v', e = .returned (.tuple #[v', .int .i64 0]) ∧ No w.heap.size w' v' (Dg.db B64 (Dg.dv B64 xs ^ n)) ∧ Below w.heap.size w w') := by
  subst hN
  have CL := Lib.hid (len_calls v xs w hv (by omega))
  have CT := Lib.hid (fun wx (hb : Below w.heap.size w wx) => trim_calls v xs wx (hv.below hb) (by omega))
  obtain ⟨_, a1, c1, rfl, _, _⟩ := id hv
  clear hv
  generalize Dg.dv B64 xs = V at *
  have hbp := Dg.bl_pos h0
  generalize Dg.bl V = bl at *
  have h1 : ¬ ((n : Int) < 0) := by omega
  have hq : n * bl ≤ 1048576 := Nat.le_trans (Nat.mul_le_mul_right _ hn) (Nat.div_mul_le_self _ _)
  have hdv : (1048576 : Int) / bl = ((1048576 / bl : Nat) : Int) := (Int.natCast_ediv 1048576 bl).symm
  have hdq : 1048576 / bl ≤ 1048576 := Nat.div_le_self _ _
  have hnb : n ≤ 1048576 := by omega
  generalize 1048576 / bl = Q at *
  have h2 : ((bl : Int) > 0) := by omega
  have h3 : ¬ ((n : Int) > Q) := by omega
  have h4 : ((bl : Int) == 0) = false := by rw [beq_eq_false_iff_ne]; omega
  have HLEN := Lib.hid hlen
  have HV0 := Lib.hid h0
  clear hlen h0
  go_enter Tryz.func56, Tryz.ntmps56
  go_wp2_with fail
  refine CL.out.mono ?_
  rintro e w' ⟨rfl, rfl⟩
  go_wp2_with fail
  have hba : Below w.heap.size w (w.alloc (.cells #[.int .u64 1] 43)) := (Below.refl _ _).alloc (Nat.le_refl _) _
  refine (CT.out _ hba).mono ?_
  rintro e w2 ⟨v2, rfl, hno, hb2⟩
  obtain ⟨a3, c3, rfl⟩ := hno.slice
  have hone := (No.one w).below hb2
  have hba2 := hba.trans (hb2.mono hba.size)
  have HAB := Lib.hid (show AB w (.slice (some ⟨w.heap.size, 0, none⟩) 1 1) (.slice a3 (Dg.db B64 V).length c3) 1 V w2 from ⟨hone, hno.mono hba.size, hba2⟩)
  clear hno hb2 hba hone hba2 hdv hdq h1 h2 h3 h4 hq hn hb hbp
  go_wp2_with fail
  go_loopw [1, 7, 8] (fun s x y wr => ∃ m O S : Nat, m ≤ 1048576 ∧ s = .int .i64 m ∧ Hid (AB w x y O S wr) ∧ Hid (PowAt V n m O S)) (fun s _ _ _ => (intOf s).toNat)
  case atStart => exact ⟨n, 1, V, hnb, rfl, HAB, Lib.hid (PowAt.start V n HV0.out)⟩
  case round =>
    clear HAB
    obtain ⟨m, O, S, hm, rfl, hAB, hP⟩ := hrel
    obtain ⟨a5, c5, rfl⟩ := hAB.out.na.slice
    obtain ⟨a6, c6, rfl⟩ := hAB.out.nb.slice
    have HLO := Lib.hid (Nat.le_trans (db_len_mono hP.out.lo) HLEN.out)
    by_cases hm0 : m = 0
    · subst hm0
      have hlt : ¬ (((0 : Nat) : Int) > 0) := by omega
      have HE := Lib.hid (show O = V ^ n from hP.out.done)
      go_wp2_with fail
      go_ret2
      exact ⟨.slice a5 (Dg.db B64 O).length c5, rfl, by rw [← HE.out]; exact hAB.out.na, hAB.out.bel⟩
    · have hgt : (m : Int) > 0 := by omega
      have HLS := Lib.hid (Nat.le_trans (db_len_mono (hP.out.ls (by omega))) HLEN.out)
      have C1 := Lib.hid (mul_calls _ _ _ _ wr hAB.out.na.nv hAB.out.nb.nv (Nat.le_trans HLO.out (by decide)) (Nat.le_trans HLS.out (by decide)))
      have C2 := Lib.hid (fun wx va C (h : AB w va (.slice a6 (Dg.db B64 S).length c6) C S wx) => mul_calls _ _ _ _ wx h.nb.nv h.nb.nv (Nat.le_trans HLS.out (by decide)) (Nat.le_trans HLS.out (by decide)))
      rw [Dg.dv_db (by decide), Dg.dv_db (by decide)] at C1
      rw [Dg.dv_db (by decide)] at C2
      have hdm : (m : Int) / 2 = ((m / 2 : Nat) : Int) := by omega
      have hmm : (m : Int) % 2 = ((m % 2 : Nat) : Int) := by omega
      have HHALF := Lib.hid (show m / 2 < m ∧ m / 2 ≤ 1048576 by omega)
      have hP1 := hP.out.odd
      have hP2 := hP.out.even
      have hP3 := hP.out.one
      have HP1 := Lib.hid hP1
      have HP2 := Lib.hid hP2
      have HP3 := Lib.hid hP3
      clear hP1 hP2 hP3
      generalize hmh : m / 2 = mh at *
      have HMH := Lib.hid hmh
      clear hmh
      by_cases hodd : m % 2 = 1
      · have hd1 : ((m % 2 : Nat) : Int) = 1 := by omega
        rw [hodd] at hmm
        go_wp2_with fail
        refine C1.out.mono ?_
        rintro e w5 ⟨v5, rfl, hno, hb⟩
        obtain ⟨a7, c7, rfl⟩ := hno.slice
        have HAB2 := Lib.hid (hAB.out.left hb hno)
        clear hno hb C1
        by_cases hm1 : m = 1
        · have hle : ¬ ((m : Int) > 1) := by omega
          go_wp2_with fail
          go_roundw
          case rel => exact ⟨mh, O * S, S, HHALF.out.2, by go_num, HAB2, Lib.hid (HP3.out hm1)⟩
          case measure => have := HHALF.out; simp only [intOf]; omega
        · have hle : (m : Int) > 1 := by omega
          have C3 := Lib.hid (C2.out _ _ _ HAB2.out)
          go_wp2_with fail
          refine C3.out.mono ?_
          rintro e w6 ⟨v6, rfl, hno, hb⟩
          obtain ⟨a8, c8, rfl⟩ := hno.slice
          have HAB3 := Lib.hid (HAB2.out.right hb hno)
          clear hno hb
          go_wp2_with fail
          go_roundw
          case rel => exact ⟨mh, O * S, S * S, HHALF.out.2, by go_num, HAB3, Lib.hid (HP1.out hodd (by omega))⟩
          case measure => have := HHALF.out; simp only [intOf]; omega
      · have hm20 : m % 2 = 0 := by omega
        rw [hm20] at hmm
        have hle : (m : Int) > 1 := by omega
        have C3 := Lib.hid (C2.out _ _ _ hAB.out)
        go_wp2_with fail
        refine C3.out.mono ?_
        rintro e w6 ⟨v6, rfl, hno, hb⟩
        obtain ⟨a8, c8, rfl⟩ := hno.slice
        have HAB3 := Lib.hid (hAB.out.right hb hno)
        clear hno hb
        go_wp2_with fail
        go_roundw
        case rel => exact ⟨mh, O, S * S, HHALF.out.2, by go_num, HAB3, Lib.hid (HP2.out hm20 (by omega))⟩
        case measure => have := HHALF.out; simp only [intOf]; omega

end Go.Proofs.YthlpfhenaakljaaGreatDoor

namespace Go.Proofs.YthlpfhenaakljaaGreatDoor
open Go.RowKit

/-- The box and the result's block. -/
structure PwSt (w : World) (j1 j3 : Nat) (c1 : Array Value) (wx : World) : Prop where
  bel : Below w.heap.size w wx
  r1 : wx.heap[j1]? = some (.cells c1 27 (0, 0))
  r3 : wx.heap[j3]? = some (.cells #[.bool false, .slice none 0 0, .slice none 0 0] 27 (0, 0))
theorem PwSt.call {w wx wy : World} {j1 j3 : Nat} {c1 : Array Value} (h : PwSt w j1 j3 c1 wx) (hb : Below wx.heap.size wx wy) : PwSt w j1 j3 c1 wy :=
  ⟨h.bel.trans (hb.mono h.bel.size), block_of hb h.r1, block_of hb h.r3⟩

set_option maxRecDepth 100000 in
set_option maxHeartbeats 3200000 in
theorem rpow_calls (b : Bool) (m1 m2 : Value) (xs ys : List Nat) (z : Int) (d n : Nat) (N : Int) (hN : N = (n : Int)) (w : World) (h1 : Nv w m1 xs) (h2 : Nv w m2 ys) (l1 : xs.length ≤ 900) (l2 : ys.length ≤ 900)
    (hz : z = redZ b (Dg.dv B64 xs) (Dg.dv B64 ys)) (hd : d = redD (Dg.dv B64 xs) (Dg.dv B64 ys)) (h0 : z ≠ 0)
    (p1 : n ≤ 1048576 / Dg.bl z.natAbs) (p2 : n ≤ 1048576 / Dg.bl d) (q1 : Dg.bl z.natAbs ≤ 1000000) (q2 : Dg.bl d ≤ 1000000) (e1 : (Dg.db B64 (z.natAbs ^ n)).length ≤ 1000000) (e2 : (Dg.db B64 (d ^ n)).length ≤ 1000000) (hodd : n % 2 = 1) (hnb : n ≤ 1048576) :
    Calls Tryz.prog 28 #[.agg #[.bool b, m1, m2], .int .i64 N] w (fun e w' => ∃ v, e = .returned (.tuple #[v, .int .i64 0]) ∧ RR (nrm (sgn (decide (z < 0)) (z.natAbs ^ n)) (d ^ n)) (nrd (sgn (decide (z < 0)) (z.natAbs ^ n)) (d ^ n)) w.heap.size w' v ∧ Below w.heap.size w w') := by
  subst hN
  obtain ⟨_, a1, c1, rfl, _, _⟩ := id h1
  obtain ⟨_, a2, c2, rfl, _, _⟩ := id h2
  have hR : Red z d := by rw [hz, hd]; exact red_red _ _ _
  have lz : (Dg.db B64 z.natAbs).length ≤ 901 := by rw [hz]; exact Nat.le_trans (redZ_len b h1.1 _) (by omega)
  have ld : (Dg.db B64 d).length ≤ 901 := by rw [hd]; exact Nat.le_trans (redD_len _ h2.1) (by omega)
  have CC := Lib.hid (fun wx (hb : Below w.heap.size w wx) => count_calls b _ _ xs ys wx (h1.below hb) (h2.below hb) (by omega) (by omega))
  rw [← hz, ← hd] at CC
  have K1 := Lib.hid (fun wx v (hv : Nv wx v (Dg.db B64 z.natAbs)) => pow_calls v _ n n rfl wx hv (by omega) (by rw [Dg.dv_db (by decide)]; omega) (by rw [Dg.dv_db (by decide)]; exact p1) (by rw [Dg.dv_db (by decide)]; exact q1) (by rw [Dg.dv_db (by decide)]; exact e1))
  have K2 := Lib.hid (fun wx v (hv : Nv wx v (Dg.db B64 d)) => pow_calls v _ n n rfl wx hv (by omega) (by rw [Dg.dv_db (by decide)]; exact hR.1) (by rw [Dg.dv_db (by decide)]; exact p2) (by rw [Dg.dv_db (by decide)]; exact q2) (by rw [Dg.dv_db (by decide)]; exact e2))
  rw [Dg.dv_db (by decide)] at K1 K2
  have HP0 := Lib.hid (show d ^ n ≠ 0 from Nat.ne_of_gt (Nat.pow_pos (by have := hR.1; omega)))
  generalize hsn : sgn (decide (z < 0)) (z.natAbs ^ n) = SZ at *
  have HSN := Lib.hid hsn
  have HSL := Lib.hid (show (Dg.db B64 SZ.natAbs).length ≤ 1000000 by rw [← hsn, sgn_abs]; exact e1)
  generalize hZ : nrm SZ (d ^ n) = Z at *
  generalize hD : nrd SZ (d ^ n) = D at *
  have HZD := Lib.hid (And.intro hZ hD)
  have HE1 := Lib.hid e1
  have HE2 := Lib.hid e2
  clear h1 h2 hz hd h0 p1 p2 q1 q2 e1 e2 hR lz ld hZ hD hsn
  generalize z.natAbs ^ n = PZ at *
  generalize d ^ n = PD at *
  go_enter Tryz.func28, Tryz.ntmps28
  go_upto_region 1 with fail
  obtain ⟨g1, g2, hB0, hsz⟩ := two_blocks w (.cells #[.bool b, .slice a1 xs.length c1, .slice a2 ys.length c2] 27) (.cells #[.bool false, .slice none 0 0, .slice none 0 0] 27)
  generalize (w.alloc (.cells #[.bool b, .slice a1 xs.length c1, .slice a2 ys.length c2] 27)).alloc (.cells #[.bool false, .slice none 0 0, .slice none 0 0] 27) = W at *
  have HC := Lib.hid (CC.out _ hB0)
  have HG1 := Lib.hid g1
  have HG2 := Lib.hid g2
  have HB0 := Lib.hid (show Bel w W from hB0)
  have hc0 := cell_of_row _ _ 0 _ _ (0, 0) g1
  have hc1 := cell_of_row _ _ 1 _ _ (0, 0) g1
  have hc2 := cell_of_row _ _ 2 _ _ (0, 0) g1
  have HGE := Lib.hid (show w.heap.size ≤ w.heap.size + 1 by omega)
  have hne := Lib.hid (show w.heap.size + 1 ≠ w.heap.size by omega)
  clear g1 g2 hB0 hsz CC
  generalize w.heap.size + 1 = j3 at *
  generalize hj : w.heap.size = j1 at *
  have HJ := Lib.hid hj
  clear hj
  go_wp2_with fail
  refine HC.out.mono ?_
  rintro e w2 ⟨v, rfl, ⟨vn, vd, rfl, hn, hdn⟩, hb⟩
  obtain ⟨a5, c5, rfl⟩ := hn.slice
  obtain ⟨a6, c6, rfl⟩ := hdn.slice
  have HB2 := Lib.hid (show Bel w w2 from HB0.out.trans (hb.mono HB0.out.size))
  have hj1 := heap_lt HG1.out
  have HG1 := Lib.hid (block_of hb HG1.out)
  have HG2 := Lib.hid (block_of hb HG2.out)
  have hf0 := frozen_of_row _ _ 0 _ _ HG1.out
  have hf1 := frozen_of_row _ _ 1 _ _ HG1.out
  have hf2 := frozen_of_row _ _ 2 _ _ HG1.out
  have hr0 := cell_of_row _ _ 0 _ _ (0, 0) HG1.out
  have hr1 := cell_of_row _ _ 1 _ _ (0, 0) HG1.out
  have hr2 := cell_of_row _ _ 2 _ _ (0, 0) HG1.out
  have HN := Lib.hid hn
  have HDN := Lib.hid hdn
  have HJ1 := Lib.hid hj1
  clear hn hdn hb hc0 hc1 hc2 hj1
  generalize hze : decide (z < 0) = bb at *
  clear hze
  go_upto_region 2 with fail
  have k1 := stored3 HG1.out (.bool bb) (.slice a5 (Dg.db B64 z.natAbs).length c5) (.slice a6 (Dg.db B64 d).length c6)
  have k2 := other3 HG2.out hne.out (.bool bb) (.slice a5 (Dg.db B64 z.natAbs).length c5) (.slice a6 (Dg.db B64 d).length c6)
  have f1 := (filled3 (w := w) (g := j1) HB2.out (by rw [HJ.out]; exact Nat.le_refl _) (.bool bb) (.slice a5 (Dg.db B64 z.natAbs).length c5) (.slice a6 (Dg.db B64 d).length c6)).1
  have n1 := (kept3 HN.out HJ1.out (.bool bb) (.slice a5 (Dg.db B64 z.natAbs).length c5) (.slice a6 (Dg.db B64 d).length c6)).nv
  have n2 := (kept3 HDN.out HJ1.out (.bool bb) (.slice a5 (Dg.db B64 z.natAbs).length c5) (.slice a6 (Dg.db B64 d).length c6)).nv
  clear hf0 hf1 hf2 hr0 hr1 hr2
  generalize ((w2.setCell ⟨j1, 0, none⟩ (.bool bb)).setCell ⟨j1, 1, none⟩ (.slice a5 (Dg.db B64 z.natAbs).length c5)).setCell ⟨j1, 2, none⟩ (.slice a6 (Dg.db B64 d).length c6) = W3 at *
  have HST := Lib.hid (show PwSt w j1 j3 #[.bool bb, .slice a5 (Dg.db B64 z.natAbs).length c5, .slice a6 (Dg.db B64 d).length c6] W3 from ⟨f1, k1, k2⟩)
  have HN1 := Lib.hid n1
  have HN2 := Lib.hid n2
  have x0 := cell_of_row _ _ 0 _ _ (0, 0) k1
  have x1 := cell_of_row _ _ 1 _ _ (0, 0) k1
  have x2 := cell_of_row _ _ 2 _ _ (0, 0) k1
  clear k1 k2 f1 n1 n2
  go_wp2_with fail
  refine (K1.out _ _ HN1.out).mono ?_
  rintro e w4 ⟨v, rfl, hno, hb⟩
  obtain ⟨a7, c7, rfl⟩ := hno.slice
  have HX := Lib.hid hno.nv
  have HN2 := Lib.hid (HN2.out.below hb)
  have HST := Lib.hid (HST.out.call hb)
  have x0 := cell_of_row _ _ 0 _ _ (0, 0) HST.out.r1
  have x1 := cell_of_row _ _ 1 _ _ (0, 0) HST.out.r1
  have x2 := cell_of_row _ _ 2 _ _ (0, 0) HST.out.r1
  clear hno hb
  go_wp2_with fail
  refine (K2.out _ _ HN2.out).mono ?_
  rintro e w5 ⟨v, rfl, hno, hb⟩
  obtain ⟨a8, c8, rfl⟩ := hno.slice
  have HY := Lib.hid hno.nv
  have HX := Lib.hid (HX.out.below hb)
  have HST := Lib.hid (HST.out.call hb)
  have x0 := cell_of_row _ _ 0 _ _ (0, 0) HST.out.r1
  have x1 := cell_of_row _ _ 1 _ _ (0, 0) HST.out.r1
  have x2 := cell_of_row _ _ 2 _ _ (0, 0) HST.out.r1
  clear hno hb
  have hmm : (n : Int) % 2 = 1 := by omega
  have CW := Lib.hid (wmake_calls bb _ _ w5 HX.out (Nat.le_trans HE1.out (by decide)))
  rw [Dg.dv_db (by decide), HSN.out] at CW
  cases bb <;> (
    go_wp2_with fail
    refine CW.out.mono ?_
    rintro e w6 ⟨v, rfl, hno, hb⟩
    obtain ⟨a9, c9, rfl⟩ := hno.slice
    have HW := Lib.hid hno.nv
    have HY := Lib.hid (HY.out.below hb)
    have HST := Lib.hid (HST.out.call hb)
    clear hno hb
    go_wp2_with fail
    refine (rmake_calls _ _ _ _ _ _ HW.out HY.out (Nat.le_trans HSL.out (by decide)) (Nat.le_trans HE2.out (by decide))).mono ?_
    rintro e w7 ⟨hb, _, hq⟩
    rw [Dg.dv_db (by decide), Dg.dv_db (by decide)] at hq
    obtain ⟨v, rfl, hr⟩ := hq HP0.out
    rw [(rr_nrm HP0.out).1, (rr_nrm HP0.out).2, HZD.out.1, HZD.out.2] at hr
    obtain ⟨vn, vd, rfl, hn, hdn⟩ := hr
    obtain ⟨aA, cA, rfl⟩ := hn.slice
    obtain ⟨aB, cB, rfl⟩ := hdn.slice
    have HLT := Lib.hid (heap_lt HST.out.r3)
    have HST := Lib.hid (HST.out.call hb)
    have HN9 := Lib.hid hn
    have HD9 := Lib.hid hdn
    have t0 := frozen_of_row _ _ 0 _ _ HST.out.r3
    have t1 := frozen_of_row _ _ 1 _ _ HST.out.r3
    have t2 := frozen_of_row _ _ 2 _ _ HST.out.r3
    have v0 := cell_of_row _ _ 0 _ _ (0, 0) HST.out.r3
    have v1 := cell_of_row _ _ 1 _ _ (0, 0) HST.out.r3
    have v2 := cell_of_row _ _ 2 _ _ (0, 0) HST.out.r3
    clear hq hn hdn hb
    go_wp2_with fail
    refine ret_row_tmp rfl _ _ j3 27 _ (0, 0) rfl (stored3 HST.out.r3 _ _ _) und_Rat size_Rat ?_
    have hge : w.heap.size ≤ j3 := by rw [HJ.out]; exact HGE.out
    exact ⟨_, rfl, ⟨_, _, rfl, (filled3 HST.out.bel hge _ _ _).2 _ _ _ HLT.out HN9.out, (filled3 HST.out.bel hge _ _ _).2 _ _ _ HLT.out HD9.out⟩, (filled3 HST.out.bel hge _ _ _).1⟩)

end Go.Proofs.YthlpfhenaakljaaGreatDoor

namespace Go.Proofs.YthlpfhenaakljaaGreatDoor
open Go.RowKit

set_option maxHeartbeats 1600000 in
theorem equal_calls (v1 v2 : Value) (A B : Nat) (w : World) (h1 : Nv w v1 (Dg.db B64 A)) (h2 : Nv w v2 (Dg.db B64 B)) (l1 : (Dg.db B64 A).length ≤ 4398046511104) (l2 : (Dg.db B64 B).length ≤ 4398046511104) :
    Calls Tryz.prog 53 #[v1, v2] w (fun e w' => e = .returned (.bool (decide (A = B))) ∧ w = w') := by
  have CM := Lib.hid (cmp_calls v1 v2 _ _ w h1 h2 l1 l2)
  rw [Dg.dv_db (by decide), Dg.dv_db (by decide)] at CM
  obtain ⟨_, a1, c1, rfl, _, _⟩ := h1
  obtain ⟨_, a2, c2, rfl, _, _⟩ := h2
  have hz := Dg.cmpZ_zero (m := A) (n := B)
  by_cases hAB : A = B
  · have hz1 : Dg.cmpZ A B = 0 := hz.2 hAB
    rw [hz1] at CM
    have hd : decide (A = B) = true := decide_eq_true hAB
    rw [hd]
    subst hAB
    clear hz hz1 hd
    go_enter Tryz.func53, Tryz.ntmps53
    go_wp2_with fail
    refine CM.out.mono ?_
    rintro e w' ⟨rfl, rfl⟩
    go_wp2_with fail
    go_ret
    exact ⟨rfl, rfl⟩
  · have hz1 : (Dg.cmpZ A B == 0) = false := by rw [beq_eq_false_iff_ne]; exact fun h => hAB (hz.1 h)
    have hd : decide (A = B) = false := decide_eq_false hAB
    rw [hd]
    clear hz hd
    generalize Dg.cmpZ A B = cz at *
    by_cases hl : (Dg.db B64 A).length = (Dg.db B64 B).length
    · have hl2 : (((Dg.db B64 A).length : Int) == (Dg.db B64 B).length) = true := by simp [hl]
      clear hAB
      generalize (Dg.db B64 A).length = n1 at *
      generalize (Dg.db B64 B).length = n2 at *
      clear hl
      go_enter Tryz.func53, Tryz.ntmps53
      go_wp2_with fail
      refine CM.out.mono ?_
      rintro e w' ⟨rfl, rfl⟩
      go_wp2_with fail
      go_ret
      exact ⟨rfl, rfl⟩
    · have hl2 : (((Dg.db B64 A).length : Int) == (Dg.db B64 B).length) = false := by rw [beq_eq_false_iff_ne]; omega
      clear hAB CM
      generalize (Dg.db B64 A).length = n1 at *
      generalize (Dg.db B64 B).length = n2 at *
      go_enter Tryz.func53, Tryz.ntmps53
      go_wp2_with fail
      go_ret
      exact ⟨rfl, rfl⟩

end Go.Proofs.YthlpfhenaakljaaGreatDoor

namespace Go.Proofs.YthlpfhenaakljaaGreatDoor
open Go.RowKit

set_option maxRecDepth 100000 in
set_option maxHeartbeats 3200000 in
theorem dread_1_calls (w : World) : Calls Tryz.prog 52 #[.string ⟨#[49]⟩] w (fun e w' => ∃ v, e = .returned (.tuple #[v, .int .i64 0]) ∧ No w.heap.size w' v (Dg.db B64 1) ∧ Below w.heap.size w w') := by
  have CO := Lib.hid (fun wx => of_calls 1 wx (by decide))
  go_enter Tryz.func52, Tryz.ntmps52
  go_wp2_with fail
  go_loop [14] (fun s => ∃ k : Nat, k ≤ 1 ∧ s = .int .i64 k) (fun s => 1 - (intOf s).toNat)
  case atStart => exact ⟨0, by omega, rfl⟩
  case round =>
    obtain ⟨k, hk, rfl⟩ := hrel
    rcases (show k = 0 ∨ k = 1 by omega) with rfl | rfl
    · go_wp2_with fail
      go_round
      case rel => exact ⟨1, by omega, rfl⟩
      case measure => simp [intOf]
    · go_wp2_with fail
      go_loopw [0, 5] (fun s x wr => (s = .string ⟨#[49]⟩ ∧ x = .slice none 0 0 ∧ wr = w) ∨ (s = .string ⟨#[]⟩ ∧ Hid (Own w x (Dg.db B64 1) wr))) (fun s _ _ => match s with | .string b => b.size | _ => 0)
      case atStart => exact .inl ⟨rfl, rfl, rfl⟩
      case round =>
        rcases hrel with ⟨rfl, rfl, rfl⟩ | ⟨rfl, hO⟩
        · go_wp2_with fail
          go_loop [7, 8, 48] (fun x y s => (x = .int .u64 0 ∧ y = .int .u64 1 ∧ s = .int .i64 0) ∨ (x = .int .u64 1 ∧ y = .int .u64 10 ∧ s = .int .i64 1)) (fun _ _ s => 1 - (intOf s).toNat)
          case atStart => exact .inl ⟨rfl, rfl, rfl⟩
          case round =>
            rcases hrel with ⟨rfl, rfl, rfl⟩ | ⟨rfl, rfl, rfl⟩
            · go_wp2_with fail
              go_round
              case rel => exact .inr ⟨rfl, rfl, rfl⟩
              case measure => simp [intOf]
            · go_wp2_with fail
              have CM := Lib.hid (mul_calls (.slice none 0 0) (.slice (some ⟨wr.heap.size, 0, none⟩) 1 1) [] [10] (wr.alloc (.cells #[.int .u64 ((10 : Nat) : Int)] 43)) ⟨Ws.nil, none, 0, rfl, Nat.le_refl _, .inl rfl⟩ (Nv.lit wr (by decide)) (by simp) (by simp))
              rw [show Dg.dv B64 [] * Dg.dv B64 [10] = 0 from by simp [Dg.dv]] at CM
              have HA := Lib.hid ((Below.refl wr.heap.size wr).alloc (Nat.le_refl _) (.cells #[.int .u64 ((10 : Nat) : Int)] 43))
              refine CM.out.mono ?_
              rintro e w5 ⟨v5, rfl, hn5, hb5⟩
              obtain ⟨a5, c5, rfl⟩ := hn5.slice
              have HN5 := Lib.hid hn5.nv
              have HB5 := Lib.hid (HA.out.trans (hb5.mono HA.out.size))
              clear hn5 hb5
              go_wp2_with fail
              refine (CO.out _).mono ?_
              rintro e w6 ⟨v6, rfl, hn6, hb6⟩
              obtain ⟨a6, c6, rfl⟩ := hn6.slice
              have CA := Lib.hid (add_calls _ _ _ _ w6 (HN5.out.below hb6) hn6.nv (by rw [Dg.db_zero]; simp) (Nat.le_trans (Dg.db_length (b := B64) (n := 1) (k := 1) (by decide) (by decide)) (by decide)))
              rw [Dg.dv_db (by decide), Dg.dv_db (by decide), Nat.zero_add] at CA
              have HB6 := Lib.hid (HB5.out.trans (hb6.mono HB5.out.size))
              clear hn6 hb6
              go_wp2_with fail
              refine CA.out.mono ?_
              rintro e w7 ⟨v7, rfl, hn7, hb7⟩
              obtain ⟨a7, c7, rfl⟩ := hn7.slice
              have HO := Lib.hid (show Own wr (.slice a7 (Dg.db B64 1).length c7) (Dg.db B64 1) w7 from ⟨hn7.mono HB6.out.size, HB6.out.trans (hb7.mono HB6.out.size)⟩)
              clear hn7 hb7
              go_wp2_with fail
              go_roundw
              case rel => exact .inr ⟨rfl, HO⟩
              case measure => decide
        · obtain ⟨a9, c9, rfl⟩ := hO.out.1.slice
          go_wp2_with fail
          go_ret2
          exact ⟨.slice a9 (Dg.db B64 1).length c9, rfl, hO.out.1, hO.out.2⟩

set_option maxRecDepth 100000 in
set_option maxHeartbeats 3200000 in
theorem dread_2_calls (w : World) : Calls Tryz.prog 52 #[.string ⟨#[50]⟩] w (fun e w' => ∃ v, e = .returned (.tuple #[v, .int .i64 0]) ∧ No w.heap.size w' v (Dg.db B64 2) ∧ Below w.heap.size w w') := by
  have CO := Lib.hid (fun wx => of_calls 2 wx (by decide))
  go_enter Tryz.func52, Tryz.ntmps52
  go_wp2_with fail
  go_loop [14] (fun s => ∃ k : Nat, k ≤ 1 ∧ s = .int .i64 k) (fun s => 1 - (intOf s).toNat)
  case atStart => exact ⟨0, by omega, rfl⟩
  case round =>
    obtain ⟨k, hk, rfl⟩ := hrel
    rcases (show k = 0 ∨ k = 1 by omega) with rfl | rfl
    · go_wp2_with fail
      go_round
      case rel => exact ⟨1, by omega, rfl⟩
      case measure => simp [intOf]
    · go_wp2_with fail
      go_loopw [0, 5] (fun s x wr => (s = .string ⟨#[50]⟩ ∧ x = .slice none 0 0 ∧ wr = w) ∨ (s = .string ⟨#[]⟩ ∧ Hid (Own w x (Dg.db B64 2) wr))) (fun s _ _ => match s with | .string b => b.size | _ => 0)
      case atStart => exact .inl ⟨rfl, rfl, rfl⟩
      case round =>
        rcases hrel with ⟨rfl, rfl, rfl⟩ | ⟨rfl, hO⟩
        · go_wp2_with fail
          go_loop [7, 8, 48] (fun x y s => (x = .int .u64 0 ∧ y = .int .u64 1 ∧ s = .int .i64 0) ∨ (x = .int .u64 2 ∧ y = .int .u64 10 ∧ s = .int .i64 1)) (fun _ _ s => 1 - (intOf s).toNat)
          case atStart => exact .inl ⟨rfl, rfl, rfl⟩
          case round =>
            rcases hrel with ⟨rfl, rfl, rfl⟩ | ⟨rfl, rfl, rfl⟩
            · go_wp2_with fail
              go_round
              case rel => exact .inr ⟨rfl, rfl, rfl⟩
              case measure => simp [intOf]
            · go_wp2_with fail
              have CM := Lib.hid (mul_calls (.slice none 0 0) (.slice (some ⟨wr.heap.size, 0, none⟩) 1 1) [] [10] (wr.alloc (.cells #[.int .u64 ((10 : Nat) : Int)] 43)) ⟨Ws.nil, none, 0, rfl, Nat.le_refl _, .inl rfl⟩ (Nv.lit wr (by decide)) (by simp) (by simp))
              rw [show Dg.dv B64 [] * Dg.dv B64 [10] = 0 from by simp [Dg.dv]] at CM
              have HA := Lib.hid ((Below.refl wr.heap.size wr).alloc (Nat.le_refl _) (.cells #[.int .u64 ((10 : Nat) : Int)] 43))
              refine CM.out.mono ?_
              rintro e w5 ⟨v5, rfl, hn5, hb5⟩
              obtain ⟨a5, c5, rfl⟩ := hn5.slice
              have HN5 := Lib.hid hn5.nv
              have HB5 := Lib.hid (HA.out.trans (hb5.mono HA.out.size))
              clear hn5 hb5
              go_wp2_with fail
              refine (CO.out _).mono ?_
              rintro e w6 ⟨v6, rfl, hn6, hb6⟩
              obtain ⟨a6, c6, rfl⟩ := hn6.slice
              have CA := Lib.hid (add_calls _ _ _ _ w6 (HN5.out.below hb6) hn6.nv (by rw [Dg.db_zero]; simp) (Nat.le_trans (Dg.db_length (b := B64) (n := 2) (k := 1) (by decide) (by decide)) (by decide)))
              rw [Dg.dv_db (by decide), Dg.dv_db (by decide), Nat.zero_add] at CA
              have HB6 := Lib.hid (HB5.out.trans (hb6.mono HB5.out.size))
              clear hn6 hb6
              go_wp2_with fail
              refine CA.out.mono ?_
              rintro e w7 ⟨v7, rfl, hn7, hb7⟩
              obtain ⟨a7, c7, rfl⟩ := hn7.slice
              have HO := Lib.hid (show Own wr (.slice a7 (Dg.db B64 2).length c7) (Dg.db B64 2) w7 from ⟨hn7.mono HB6.out.size, HB6.out.trans (hb7.mono HB6.out.size)⟩)
              clear hn7 hb7
              go_wp2_with fail
              go_roundw
              case rel => exact .inr ⟨rfl, HO⟩
              case measure => decide
        · obtain ⟨a9, c9, rfl⟩ := hO.out.1.slice
          go_wp2_with fail
          go_ret2
          exact ⟨.slice a9 (Dg.db B64 2).length c9, rfl, hO.out.1, hO.out.2⟩

set_option maxRecDepth 100000 in
set_option maxHeartbeats 3200000 in
theorem dread_4_calls (w : World) : Calls Tryz.prog 52 #[.string ⟨#[52]⟩] w (fun e w' => ∃ v, e = .returned (.tuple #[v, .int .i64 0]) ∧ No w.heap.size w' v (Dg.db B64 4) ∧ Below w.heap.size w w') := by
  have CO := Lib.hid (fun wx => of_calls 4 wx (by decide))
  go_enter Tryz.func52, Tryz.ntmps52
  go_wp2_with fail
  go_loop [14] (fun s => ∃ k : Nat, k ≤ 1 ∧ s = .int .i64 k) (fun s => 1 - (intOf s).toNat)
  case atStart => exact ⟨0, by omega, rfl⟩
  case round =>
    obtain ⟨k, hk, rfl⟩ := hrel
    rcases (show k = 0 ∨ k = 1 by omega) with rfl | rfl
    · go_wp2_with fail
      go_round
      case rel => exact ⟨1, by omega, rfl⟩
      case measure => simp [intOf]
    · go_wp2_with fail
      go_loopw [0, 5] (fun s x wr => (s = .string ⟨#[52]⟩ ∧ x = .slice none 0 0 ∧ wr = w) ∨ (s = .string ⟨#[]⟩ ∧ Hid (Own w x (Dg.db B64 4) wr))) (fun s _ _ => match s with | .string b => b.size | _ => 0)
      case atStart => exact .inl ⟨rfl, rfl, rfl⟩
      case round =>
        rcases hrel with ⟨rfl, rfl, rfl⟩ | ⟨rfl, hO⟩
        · go_wp2_with fail
          go_loop [7, 8, 48] (fun x y s => (x = .int .u64 0 ∧ y = .int .u64 1 ∧ s = .int .i64 0) ∨ (x = .int .u64 4 ∧ y = .int .u64 10 ∧ s = .int .i64 1)) (fun _ _ s => 1 - (intOf s).toNat)
          case atStart => exact .inl ⟨rfl, rfl, rfl⟩
          case round =>
            rcases hrel with ⟨rfl, rfl, rfl⟩ | ⟨rfl, rfl, rfl⟩
            · go_wp2_with fail
              go_round
              case rel => exact .inr ⟨rfl, rfl, rfl⟩
              case measure => simp [intOf]
            · go_wp2_with fail
              have CM := Lib.hid (mul_calls (.slice none 0 0) (.slice (some ⟨wr.heap.size, 0, none⟩) 1 1) [] [10] (wr.alloc (.cells #[.int .u64 ((10 : Nat) : Int)] 43)) ⟨Ws.nil, none, 0, rfl, Nat.le_refl _, .inl rfl⟩ (Nv.lit wr (by decide)) (by simp) (by simp))
              rw [show Dg.dv B64 [] * Dg.dv B64 [10] = 0 from by simp [Dg.dv]] at CM
              have HA := Lib.hid ((Below.refl wr.heap.size wr).alloc (Nat.le_refl _) (.cells #[.int .u64 ((10 : Nat) : Int)] 43))
              refine CM.out.mono ?_
              rintro e w5 ⟨v5, rfl, hn5, hb5⟩
              obtain ⟨a5, c5, rfl⟩ := hn5.slice
              have HN5 := Lib.hid hn5.nv
              have HB5 := Lib.hid (HA.out.trans (hb5.mono HA.out.size))
              clear hn5 hb5
              go_wp2_with fail
              refine (CO.out _).mono ?_
              rintro e w6 ⟨v6, rfl, hn6, hb6⟩
              obtain ⟨a6, c6, rfl⟩ := hn6.slice
              have CA := Lib.hid (add_calls _ _ _ _ w6 (HN5.out.below hb6) hn6.nv (by rw [Dg.db_zero]; simp) (Nat.le_trans (Dg.db_length (b := B64) (n := 4) (k := 1) (by decide) (by decide)) (by decide)))
              rw [Dg.dv_db (by decide), Dg.dv_db (by decide), Nat.zero_add] at CA
              have HB6 := Lib.hid (HB5.out.trans (hb6.mono HB5.out.size))
              clear hn6 hb6
              go_wp2_with fail
              refine CA.out.mono ?_
              rintro e w7 ⟨v7, rfl, hn7, hb7⟩
              obtain ⟨a7, c7, rfl⟩ := hn7.slice
              have HO := Lib.hid (show Own wr (.slice a7 (Dg.db B64 4).length c7) (Dg.db B64 4) w7 from ⟨hn7.mono HB6.out.size, HB6.out.trans (hb7.mono HB6.out.size)⟩)
              clear hn7 hb7
              go_wp2_with fail
              go_roundw
              case rel => exact .inr ⟨rfl, HO⟩
              case measure => decide
        · obtain ⟨a9, c9, rfl⟩ := hO.out.1.slice
          go_wp2_with fail
          go_ret2
          exact ⟨.slice a9 (Dg.db B64 4).length c9, rfl, hO.out.1, hO.out.2⟩

end Go.Proofs.YthlpfhenaakljaaGreatDoor

namespace Go.Proofs.YthlpfhenaakljaaGreatDoor
open Go.RowKit

set_option maxRecDepth 100000 in
set_option maxHeartbeats 400000 in
theorem wread_p2_calls (w : World) : Calls Tryz.prog 51 #[.string ⟨#[50]⟩] w (fun e w' => ∃ v, e = .returned (.tuple #[.agg #[.bool (decide ((sgn false 2) < 0)), v], .int .i64 0]) ∧ No w.heap.size w' v (Dg.db B64 (sgn false 2).natAbs) ∧ Below w.heap.size w w') := by
  have LZ := Lib.hid (show (Dg.db B64 2).length ≤ 1 from Dg.db_length (by decide) (by decide))
  generalize hz : sgn false 2 = z
  have HZ := Lib.hid hz
  clear hz
  go_enter Tryz.func51, Tryz.ntmps51
  go_upto_region 1 with fail
  obtain ⟨g1, hB0, hsz⟩ := one_block w (.cells #[.bool false, .slice none 0 0] 25)
  generalize w.alloc (.cells #[.bool false, .slice none 0 0] 25) = W at *
  have HG := Lib.hid g1
  have HB0 := Lib.hid (show Bel w W from hB0)
  have HS := Lib.hid hsz
  clear g1 hB0 hsz
  generalize hj : w.heap.size = j1 at *
  have HJ := Lib.hid hj
  clear hj
  have hs1 : ((({ data := #[50] } : ByteArray).extract 0 1).toList == [45]) = false := by kernel_rfl
  go_wp2_with fail
  refine (dread_2_calls _).mono ?_
  rintro e w2 ⟨v, rfl, hno, hb⟩
  obtain ⟨a3, c3, rfl⟩ := hno.slice
  have HN := Lib.hid hno.nv
  have HG2 := Lib.hid (block_of hb HG.out)
  have HB2 := Lib.hid (show Bel w w2 from HB0.out.trans (hb.mono HB0.out.size))
  clear hno hb
  go_wp2_with fail
  refine (wmake_calls false _ _ w2 HN.out (Nat.le_trans LZ.out (by decide))).mono ?_
  rw [Dg.dv_db (by decide), HZ.out]
  rintro e w4 ⟨v, rfl, hno, hb⟩
  obtain ⟨a5, c5, rfl⟩ := hno.slice
  have HLT := Lib.hid (heap_lt HG2.out)
  have hg4 := block_of hb HG2.out
  have HG4 := Lib.hid hg4
  have HB4 := Lib.hid (show Below w.heap.size w w4 from HB2.out.trans (hb.mono HB2.out.size))
  have HN1 := Lib.hid hno
  have t0 := frozen_of_row _ _ 0 _ _ hg4
  have t1 := frozen_of_row _ _ 1 _ _ hg4
  have v0 := cell_of_row _ _ 0 _ _ (0, 0) hg4
  have v1 := cell_of_row _ _ 1 _ _ (0, 0) hg4
  clear hno hb hg4
  generalize hze : decide (z < 0) = bb at *
  have HZE := Lib.hid hze
  clear hze
  go_wp2_with fail
  refine ret_row_tmp rfl _ _ j1 25 _ (0, 0) rfl (stored2 HG4.out _ _) und_Int size_Int ?_
  have hge : w.heap.size ≤ j1 := by rw [HJ.out]; exact Nat.le_refl _
  obtain ⟨f1, f2⟩ := filled HB4.out hge HN1.out HLT.out (.bool bb) (.slice a5 (Dg.db B64 z.natAbs).length c5)
  exact ⟨_, by rw [HZE.out]; rfl, f1, f2⟩

set_option maxRecDepth 100000 in
set_option maxHeartbeats 3200000 in
theorem wread_m1_calls (w : World) : Calls Tryz.prog 51 #[.string ⟨#[45, 49]⟩] w (fun e w' => ∃ v, e = .returned (.tuple #[.agg #[.bool (decide ((sgn true 1) < 0)), v], .int .i64 0]) ∧ No w.heap.size w' v (Dg.db B64 (sgn true 1).natAbs) ∧ Below w.heap.size w w') := by
  have LZ := Lib.hid (show (Dg.db B64 1).length ≤ 1 from Dg.db_length (by decide) (by decide))
  generalize hz : sgn true 1 = z
  have HZ := Lib.hid hz
  clear hz
  go_enter Tryz.func51, Tryz.ntmps51
  go_upto_region 1 with fail
  obtain ⟨g1, hB0, hsz⟩ := one_block w (.cells #[.bool false, .slice none 0 0] 25)
  generalize w.alloc (.cells #[.bool false, .slice none 0 0] 25) = W at *
  have HG := Lib.hid g1
  have HB0 := Lib.hid (show Bel w W from hB0)
  have HS := Lib.hid hsz
  clear g1 hB0 hsz
  generalize hj : w.heap.size = j1 at *
  have HJ := Lib.hid hj
  clear hj
  have hs1 : ((({ data := #[45, 49] } : ByteArray).extract 0 1).toList == [45]) = true := by kernel_rfl
  go_wp2_with fail
  refine (dread_1_calls _).mono ?_
  rintro e w2 ⟨v, rfl, hno, hb⟩
  obtain ⟨a3, c3, rfl⟩ := hno.slice
  have HN := Lib.hid hno.nv
  have HG2 := Lib.hid (block_of hb HG.out)
  have HB2 := Lib.hid (show Bel w w2 from HB0.out.trans (hb.mono HB0.out.size))
  clear hno hb
  have CZ := Lib.hid (zero_calls _ _ w2 HN.out (Nat.le_trans LZ.out (by decide)))
  rw [Dg.dv_db (by decide), decide_eq_false (by decide : ¬ (1 = 0))] at CZ
  go_wp2_with fail
  refine CZ.out.mono ?_
  rintro e w3 ⟨rfl, rfl⟩
  go_wp2_with fail
  refine (wmake_calls true _ _ w2 HN.out (Nat.le_trans LZ.out (by decide))).mono ?_
  rw [Dg.dv_db (by decide), HZ.out]
  rintro e w4 ⟨v, rfl, hno, hb⟩
  obtain ⟨a5, c5, rfl⟩ := hno.slice
  have HLT := Lib.hid (heap_lt HG2.out)
  have hg4 := block_of hb HG2.out
  have HG4 := Lib.hid hg4
  have HB4 := Lib.hid (show Below w.heap.size w w4 from HB2.out.trans (hb.mono HB2.out.size))
  have HN1 := Lib.hid hno
  have t0 := frozen_of_row _ _ 0 _ _ hg4
  have t1 := frozen_of_row _ _ 1 _ _ hg4
  have v0 := cell_of_row _ _ 0 _ _ (0, 0) hg4
  have v1 := cell_of_row _ _ 1 _ _ (0, 0) hg4
  clear hno hb hg4
  generalize hze : decide (z < 0) = bb at *
  have HZE := Lib.hid hze
  clear hze
  go_wp2_with fail
  refine ret_row_tmp rfl _ _ j1 25 _ (0, 0) rfl (stored2 HG4.out _ _) und_Int size_Int ?_
  have hge : w.heap.size ≤ j1 := by rw [HJ.out]; exact Nat.le_refl _
  obtain ⟨f1, f2⟩ := filled HB4.out hge HN1.out HLT.out (.bool bb) (.slice a5 (Dg.db B64 z.natAbs).length c5)
  exact ⟨_, by rw [HZE.out]; rfl, f1, f2⟩

end Go.Proofs.YthlpfhenaakljaaGreatDoor

namespace Go.Proofs.YthlpfhenaakljaaGreatDoor
open Go.RowKit

set_option maxHeartbeats 3200000 in
theorem rmay_calls (z : Int) (d : Nat) (m1 m2 : Value) (w : World) (h1 : Nv w m1 (Dg.db B64 z.natAbs)) (h2 : Nv w m2 (Dg.db B64 d)) (l1 : (Dg.db B64 z.natAbs).length ≤ 1000) (l2 : (Dg.db B64 d).length ≤ 1000) (h0 : d ≠ 0) :
    Calls Tryz.prog 54 #[.agg #[.bool (decide (z < 0)), m1, m2]] w (fun e w' => e = .returned (.bool (decide ((nrm z d).natAbs = z.natAbs) && decide (nrd z d = d))) ∧ Below w.heap.size w w') := by
  obtain ⟨_, a1, c1, rfl, _, _⟩ := id h1
  obtain ⟨_, a2, c2, rfl, _, _⟩ := id h2
  have hsg : decide (nrm z d < 0) = decide (z < 0) := by rw [decide_eq_decide]; exact (nrm_sign h0).1
  have MK := Lib.hid (fun wx (hb : Below w.heap.size w wx) => rmake_calls (decide (z < 0)) _ _ _ _ wx (h1.below hb) (h2.below hb) (by omega) (by omega))
  have E1 := Lib.hid (fun wx v (hb : Bel w wx) (hn : Nv wx v (Dg.db B64 (nrm z d).natAbs)) => equal_calls v _ _ _ wx hn (h1.below hb) (Nat.le_trans (nrm_len (Nat.le_refl _)) (by omega)) (by omega))
  have E2 := Lib.hid (fun wx v (hb : Bel w wx) (hn : Nv wx v (Dg.db B64 (nrd z d))) => equal_calls v _ _ _ wx hn (h2.below hb) (Nat.le_trans (nrd_len (p := 1000) l2 (by decide)) (by decide)) (by omega))
  have H0 := Lib.hid h0
  have HRR := Lib.hid (rr_nrm (z := z) h0)
  clear h1 h2 l1 l2 h0
  generalize (Dg.db B64 z.natAbs).length = n1 at *
  generalize (Dg.db B64 d).length = n2 at *
  generalize hZ : nrm z d = Z at *
  generalize hD : nrd z d = D at *
  generalize hA : decide (Z.natAbs = z.natAbs) = qa at *
  generalize hB : decide (D = d) = qb at *
  have HSG := Lib.hid hsg
  clear hZ hD hA hB hsg
  generalize decide (z < 0) = s at *
  go_enter Tryz.func54, Tryz.ntmps54
  go_upto_region 1 with fail
  obtain ⟨g1, hB0, hsz⟩ := one_block w (.cells #[.bool s, .slice a1 n1 c1, .slice a2 n2 c2] 27)
  generalize w.alloc (.cells #[.bool s, .slice a1 n1 c1, .slice a2 n2 c2] 27) = W at *
  have HM := Lib.hid (MK.out _ hB0)
  have HG := Lib.hid g1
  have HB0 := Lib.hid (show Bel w W from hB0)
  have x0 := cell_of_row _ _ 0 _ _ (0, 0) g1
  have x1 := cell_of_row _ _ 1 _ _ (0, 0) g1
  have x2 := cell_of_row _ _ 2 _ _ (0, 0) g1
  clear g1 hB0 hsz MK
  generalize hj : w.heap.size = j1 at *
  have HJ := Lib.hid hj
  clear hj
  go_wp2_with fail
  refine HM.out.mono ?_
  rintro e w2 ⟨hb, _, hq⟩
  rw [Dg.dv_db (by decide), Dg.dv_db (by decide)] at hq
  obtain ⟨v, rfl, hr⟩ := hq H0.out
  rw [HRR.out.1, HRR.out.2] at hr
  obtain ⟨vn, vd, rfl, hn, hdn⟩ := hr
  rw [HSG.out]
  obtain ⟨a5, c5, rfl⟩ := hn.slice
  obtain ⟨a6, c6, rfl⟩ := hdn.slice
  have HB2 := Lib.hid (show Bel w w2 from HB0.out.trans (hb.mono HB0.out.size))
  have hg2 := block_of hb HG.out
  have HG2 := Lib.hid hg2
  have ga := heap_alloc_new w2 (.cells #[.bool false, .slice none 0 0, .slice none 0 0] 27)
  have e0 := frozen_of_row _ _ 0 _ _ ga
  have e1 := frozen_of_row _ _ 1 _ _ ga
  have e2 := frozen_of_row _ _ 2 _ _ ga
  have r0 := cell_of_row _ _ 0 _ _ (0, 0) ga
  have r1 := cell_of_row _ _ 1 _ _ (0, 0) ga
  have r2 := cell_of_row _ _ 2 _ _ (0, 0) ga
  have hx0 := fun (o : Obj) => cell_of_row (w2.alloc o) _ 0 _ _ (0, 0) ((heap_alloc_old w2 o (heap_lt hg2)).trans hg2)
  have hx1 := fun (o : Obj) => cell_of_row (w2.alloc o) _ 1 _ _ (0, 0) ((heap_alloc_old w2 o (heap_lt hg2)).trans hg2)
  have hx2 := fun (o : Obj) => cell_of_row (w2.alloc o) _ 2 _ _ (0, 0) ((heap_alloc_old w2 o (heap_lt hg2)).trans hg2)
  have HBA := Lib.hid (show Bel w (w2.alloc (.cells #[.bool s, .slice a5 (Dg.db B64 Z.natAbs).length c5, .slice a6 (Dg.db B64 D).length c6] 27)) from HB2.out.alloc HB2.out.size _)
  have F1 := Lib.hid (E1.out _ _ HBA.out (hn.nv.alloc _))
  have F2 := Lib.hid (E2.out _ _ HBA.out (hdn.nv.alloc _))
  clear ga hq hb hn hdn hg2 E1 E2
  go_wp2_with fail
  refine F1.out.mono ?_
  rintro e w3 ⟨rfl, rfl⟩
  cases qa
  · go_wp2_with fail
    go_ret
    exact ⟨rfl, HBA.out⟩
  · go_wp2_with fail
    refine F2.out.mono ?_
    rintro e w3 ⟨rfl, rfl⟩
    go_wp2_with fail
    go_ret
    exact ⟨rfl, HBA.out⟩

end Go.Proofs.YthlpfhenaakljaaGreatDoor

namespace Go.Proofs.YthlpfhenaakljaaGreatDoor
open Go.RowKit

set_option maxRecDepth 100000 in
set_option maxHeartbeats 800000 in
theorem slcut_p_calls (w : World) : Calls Tryz.prog 83 #[.string ⟨#[50, 47, 52]⟩, .string ⟨#[47]⟩] w (fun e w' => e = .returned (.tuple #[.string ⟨#[50]⟩, .string ⟨#[52]⟩, .bool true]) ∧ ∃ m, w' = w.drewN m) := by
  have CI := Lib.hid (Tryz.stringslite_Index_one ⟨#[50, 47, 52]⟩ 47 w)
  rw [show Lib.indexByte (⟨#[50, 47, 52]⟩ : ByteArray).data.toList 47 = 1 from by kernel_rfl] at CI
  have h1 : (⟨#[50, 47, 52]⟩ : ByteArray).extract 0 1 = ⟨#[50]⟩ := by kernel_rfl
  have h2 : (⟨#[50, 47, 52]⟩ : ByteArray).extract (1 + 1) 3 = ⟨#[52]⟩ := by kernel_rfl
  go_enter Tryz.func83, Tryz.ntmps83
  go_wp2_with fail
  refine CI.out.mono ?_
  rintro e w' ⟨rfl, rfl⟩
  go_wp2_with fail
  go_quiet (fail)
  go_wp2_with fail
  go_ret3
  exact ⟨rfl, _, rfl⟩

set_option maxHeartbeats 800000 in
theorem scut_p_calls (w : World) : Calls Tryz.prog 50 #[.string ⟨#[50, 47, 52]⟩, .string ⟨#[47]⟩] w (fun e w' => e = .returned (.tuple #[.string ⟨#[50]⟩, .string ⟨#[52]⟩, .bool true]) ∧ Below w.heap.size w w') := by
  go_enter Tryz.func50, Tryz.ntmps50
  go_wp2_with fail
  refine (slcut_p_calls w).mono ?_
  rintro e w' ⟨rfl, m, hm⟩
  have HB := Lib.hid (show Below w.heap.size w w' by rw [hm]; exact below_drewN (Below.refl _ _) _)
  clear hm
  go_wp2_with fail
  go_ret3
  exact ⟨rfl, HB.out⟩

set_option maxRecDepth 100000 in
set_option maxHeartbeats 3200000 in
theorem rread_p_calls (w : World) : Calls Tryz.prog 26 #[.string ⟨#[50, 47, 52]⟩] w (fun e w' => e = .returned (.tuple #[.agg #[.bool false, .slice none 0 0, .slice none 0 0], .int .i64 3]) ∧ Below w.heap.size w w') := by
  have WR := Lib.hid (fun wx => wread_p2_calls wx)
  have DR := Lib.hid (fun wx => dread_4_calls wx)
  have MY := Lib.hid (fun z (hz : sgn false 2 = z) m1 m2 wx (h1 : Nv wx m1 (Dg.db B64 z.natAbs)) (h2 : Nv wx m2 (Dg.db B64 4)) => rmay_calls z 4 m1 m2 wx h1 h2 (Nat.le_trans (Dg.db_length (k := 1) (by decide) (by rw [← hz]; decide)) (by decide)) (Nat.le_trans (Dg.db_length (k := 1) (by decide) (by decide)) (by decide)) (by decide))
  have EQ := Lib.hid (fun wx m1 m2 (h1 : Nv wx m1 (Dg.db B64 4)) (h2 : Nv wx m2 (Dg.db B64 1)) => equal_calls m1 m2 4 1 wx h1 h2 (Nat.le_trans (Dg.db_length (k := 1) (by decide) (by decide)) (by decide)) (by rw [db_one]; decide))
  rw [decide_eq_false (by decide : ¬ (4 = 1))] at EQ
  generalize hz : sgn false 2 = z at *
  have MY := Lib.hid (fun m1 m2 wx h1 h2 => MY.out z rfl m1 m2 wx h1 h2)
  rw [show (decide ((nrm z 4).natAbs = z.natAbs) && decide (nrd z 4 = 4)) = false from by rw [← hz]; decide] at MY
  have HZ := Lib.hid hz
  clear hz
  go_enter Tryz.func26, Tryz.ntmps26
  go_upto_region 1 with fail
  obtain ⟨g1, hB0, hsz⟩ := one_block w (.cells #[.bool false, .slice none 0 0, .slice none 0 0] 27)
  generalize w.alloc (.cells #[.bool false, .slice none 0 0, .slice none 0 0] 27) = W at *
  have HG := Lib.hid g1
  have HB0 := Lib.hid (show Bel w W from hB0)
  clear g1 hB0 hsz
  generalize hj : w.heap.size = j2 at *
  have HJ := Lib.hid hj
  clear hj
  go_wp2_with fail
  refine (scut_p_calls _).mono ?_
  rintro e w2 ⟨rfl, hb⟩
  have HG2 := Lib.hid (block_of hb HG.out)
  have HB2 := Lib.hid (show Bel w w2 from HB0.out.trans (hb.mono HB0.out.size))
  clear hb
  go_wp2_with fail
  refine (WR.out _).mono ?_
  rintro e w3 ⟨v, rfl, hno, hb⟩
  obtain ⟨a3, c3, rfl⟩ := hno.slice
  have HLT3 := Lib.hid (heap_lt HG2.out)
  have HG3 := Lib.hid (block_of hb HG2.out)
  have HB3 := Lib.hid (show Bel w w3 from HB2.out.trans (hb.mono HB2.out.size))
  have HN := Lib.hid hno
  have HA3 := Lib.hid (show Bel w (w3.alloc (.cells #[.bool (decide (z < 0)), .slice a3 (Dg.db B64 z.natAbs).length c3] 25)) from HB3.out.alloc HB3.out.size _)
  have ga := heap_alloc_new w3 (.cells #[.bool false, .slice none 0 0] 25)
  have e0 := frozen_of_row _ _ 0 _ _ ga
  have e1 := frozen_of_row _ _ 1 _ _ ga
  have r0 := cell_of_row _ _ 0 _ _ (0, 0) ga
  have r1 := cell_of_row _ _ 1 _ _ (0, 0) ga
  have HGA := Lib.hid (heap_alloc_new w3 (.cells #[.bool (decide (z < 0)), .slice a3 (Dg.db B64 z.natAbs).length c3] 25))
  have HGB := Lib.hid ((heap_alloc_old w3 (.cells #[.bool (decide (z < 0)), .slice a3 (Dg.db B64 z.natAbs).length c3] 25) (heap_lt HG3.out)).trans HG3.out)
  have HNA := Lib.hid (HN.out.below ((Below.refl w3.heap.size w3).alloc (Nat.le_refl _) (.cells #[.bool (decide (z < 0)), .slice a3 (Dg.db B64 z.natAbs).length c3] 25)))
  clear ga hno hb
  generalize hze : decide (z < 0) = bb at *
  have HZE := Lib.hid hze
  clear hze
  go_wp2_with fail
  refine (DR.out _).mono ?_
  rintro e w4 ⟨v, rfl, hno, hb⟩
  obtain ⟨a4, c4, rfl⟩ := hno.slice
  clear e0 e1 r0 r1
  have HG4 := Lib.hid (block_of hb HGB.out)
  have HQ4 := block_of hb HGA.out
  have HB4 := Lib.hid (show Bel w w4 from HA3.out.trans (hb.mono HA3.out.size))
  have HN4 := Lib.hid (HNA.out.below hb)
  have HD4 := Lib.hid hno
  have HLT4 := Lib.hid (show j2 < (w3.alloc (.cells #[.bool bb, .slice a3 (Dg.db B64 z.natAbs).length c3] 25)).heap.size from heap_lt HGB.out)
  have HK := Lib.hid HQ4
  clear hno hb
  generalize w3.heap.size = q7 at *
  have x0 := cell_of_row _ _ 0 _ _ (0, 0) HQ4
  have x1 := cell_of_row _ _ 1 _ _ (0, 0) HQ4
  clear HQ4
  have ga := heap_alloc_new w4 (.cells #[.bool false, .slice none 0 0, .slice none 0 0] 27)
  have e0 := frozen_of_row _ _ 0 _ _ ga
  have e1 := frozen_of_row _ _ 1 _ _ ga
  have e2 := frozen_of_row _ _ 2 _ _ ga
  have r0 := cell_of_row _ _ 0 _ _ (0, 0) ga
  have r1 := cell_of_row _ _ 1 _ _ (0, 0) ga
  have r2 := cell_of_row _ _ 2 _ _ (0, 0) ga
  have hx0 := fun (o : Obj) => cell_of_row (w4.alloc o) _ 0 _ _ (0, 0) ((heap_alloc_old w4 o (heap_lt HK.out)).trans HK.out)
  have hx1 := fun (o : Obj) => cell_of_row (w4.alloc o) _ 1 _ _ (0, 0) ((heap_alloc_old w4 o (heap_lt HK.out)).trans HK.out)
  clear ga
  have HA4 := Lib.hid ((Below.refl w4.heap.size w4).alloc (Nat.le_refl _) (.cells #[.bool bb, .slice a3 (Dg.db B64 z.natAbs).length c3, .slice a4 (Dg.db B64 4).length c4] 27))
  have HGC := Lib.hid (heap_alloc_new w4 (.cells #[.bool bb, .slice a3 (Dg.db B64 z.natAbs).length c3, .slice a4 (Dg.db B64 4).length c4] 27))
  go_wp2_with fail
  refine (one_of_calls _).mono ?_
  rintro e w5 ⟨v, rfl, hno, hb⟩
  obtain ⟨a5, c5, rfl⟩ := hno.slice
  have hb45 : Below w4.heap.size w4 w5 := HA4.out.trans (hb.mono HA4.out.size)
  have HG5 := Lib.hid (block_of hb45 HG4.out)
  have HQ5 := block_of hb HGC.out
  have HB5 := Lib.hid (show Bel w w5 from HB4.out.trans (hb45.mono HB4.out.size))
  have HN5 := Lib.hid (HN4.out.below hb45)
  have HD5 := Lib.hid (HD4.out.below hb45)
  have HE5 := Lib.hid (EQ.out w5 _ _ HD5.out.nv hno.nv)
  have HM5 := Lib.hid (MY.out _ _ w5 HN5.out.nv HD5.out.nv)
  clear hno hb hb45 e0 e1 e2 r0 r1 r2 hx0 hx1 x0 x1
  generalize w4.heap.size = q10 at *
  have x0 := cell_of_row _ _ 0 _ _ (0, 0) HQ5
  have x1 := cell_of_row _ _ 1 _ _ (0, 0) HQ5
  have x2 := cell_of_row _ _ 2 _ _ (0, 0) HQ5
  have HK5 := Lib.hid HQ5
  clear HQ5
  go_wp2_with fail
  refine HE5.out.mono ?_
  rintro e w6 ⟨rfl, rfl⟩
  go_wp2_with fail
  refine HM5.out.mono ?_
  rintro e w6 ⟨rfl, hb⟩
  have hg6 := block_of hb HG5.out
  have HG6 := Lib.hid hg6
  have HQ6 := block_of hb HK5.out
  have HB6 := Lib.hid (show Below w.heap.size w w6 from HB5.out.trans (hb.mono HB5.out.size))
  have HN6 := Lib.hid (HN5.out.below hb)
  have HD6 := Lib.hid (HD5.out.below hb)
  have t0 := frozen_of_row _ _ 0 _ _ hg6
  have t1 := frozen_of_row _ _ 1 _ _ hg6
  have t2 := frozen_of_row _ _ 2 _ _ hg6
  have v0 := cell_of_row _ _ 0 _ _ (0, 0) hg6
  have v1 := cell_of_row _ _ 1 _ _ (0, 0) hg6
  have v2 := cell_of_row _ _ 2 _ _ (0, 0) hg6
  have y0 := cell_of_row _ _ 0 _ _ (0, 0) HQ6
  have y1 := cell_of_row _ _ 1 _ _ (0, 0) HQ6
  have y2 := cell_of_row _ _ 2 _ _ (0, 0) HQ6
  clear hb hg6 HQ6
  go_wp2_with fail
  refine ret_row_tmp rfl _ _ j2 27 _ (0, 0) rfl (stored3 HG6.out _ _ _) und_Rat size_Rat ?_
  have hge : w.heap.size ≤ j2 := by rw [HJ.out]; exact Nat.le_refl _
  exact ⟨rfl, (filled3 HB6.out hge _ _ _).1⟩
set_option maxRecDepth 100000 in
set_option maxHeartbeats 800000 in
theorem slcut_m_calls (w : World) : Calls Tryz.prog 83 #[.string ⟨#[45, 49, 47, 50]⟩, .string ⟨#[47]⟩] w (fun e w' => e = .returned (.tuple #[.string ⟨#[45, 49]⟩, .string ⟨#[50]⟩, .bool true]) ∧ ∃ m, w' = w.drewN m) := by
  have CI := Lib.hid (Tryz.stringslite_Index_one ⟨#[45, 49, 47, 50]⟩ 47 w)
  rw [show Lib.indexByte (⟨#[45, 49, 47, 50]⟩ : ByteArray).data.toList 47 = 2 from by kernel_rfl] at CI
  have h1 : (⟨#[45, 49, 47, 50]⟩ : ByteArray).extract 0 2 = ⟨#[45, 49]⟩ := by kernel_rfl
  have h2 : (⟨#[45, 49, 47, 50]⟩ : ByteArray).extract (2 + 1) 4 = ⟨#[50]⟩ := by kernel_rfl
  go_enter Tryz.func83, Tryz.ntmps83
  go_wp2_with fail
  refine CI.out.mono ?_
  rintro e w' ⟨rfl, rfl⟩
  go_wp2_with fail
  go_quiet (fail)
  go_wp2_with fail
  go_ret3
  exact ⟨rfl, _, rfl⟩

set_option maxHeartbeats 800000 in
theorem scut_m_calls (w : World) : Calls Tryz.prog 50 #[.string ⟨#[45, 49, 47, 50]⟩, .string ⟨#[47]⟩] w (fun e w' => e = .returned (.tuple #[.string ⟨#[45, 49]⟩, .string ⟨#[50]⟩, .bool true]) ∧ Below w.heap.size w w') := by
  go_enter Tryz.func50, Tryz.ntmps50
  go_wp2_with fail
  refine (slcut_m_calls w).mono ?_
  rintro e w' ⟨rfl, m, hm⟩
  have HB := Lib.hid (show Below w.heap.size w w' by rw [hm]; exact below_drewN (Below.refl _ _) _)
  clear hm
  go_wp2_with fail
  go_ret3
  exact ⟨rfl, HB.out⟩

set_option maxRecDepth 100000 in
set_option maxHeartbeats 3200000 in
theorem rread_m_calls (w : World) : Calls Tryz.prog 26 #[.string ⟨#[45, 49, 47, 50]⟩] w (fun e w' => ∃ v, e = .returned (.tuple #[v, .int .i64 0]) ∧ RR (-1) 2 w.heap.size w' v ∧ Below w.heap.size w w') := by
  have WR := Lib.hid (fun wx => wread_m1_calls wx)
  have DR := Lib.hid (fun wx => dread_2_calls wx)
  have MY := Lib.hid (fun z (hz : sgn true 1 = z) m1 m2 wx (h1 : Nv wx m1 (Dg.db B64 z.natAbs)) (h2 : Nv wx m2 (Dg.db B64 2)) => rmay_calls z 2 m1 m2 wx h1 h2 (Nat.le_trans (Dg.db_length (k := 1) (by decide) (by rw [← hz]; decide)) (by decide)) (Nat.le_trans (Dg.db_length (k := 1) (by decide) (by decide)) (by decide)) (by decide))
  have EQ := Lib.hid (fun wx m1 m2 (h1 : Nv wx m1 (Dg.db B64 2)) (h2 : Nv wx m2 (Dg.db B64 1)) => equal_calls m1 m2 2 1 wx h1 h2 (Nat.le_trans (Dg.db_length (k := 1) (by decide) (by decide)) (by decide)) (by rw [db_one]; decide))
  rw [decide_eq_false (by decide : ¬ (2 = 1))] at EQ
  generalize hz : sgn true 1 = z at *
  have MY := Lib.hid (fun m1 m2 wx h1 h2 => MY.out z rfl m1 m2 wx h1 h2)
  rw [show (decide ((nrm z 2).natAbs = z.natAbs) && decide (nrd z 2 = 2)) = true from by rw [← hz]; decide] at MY
  have HZ := Lib.hid hz
  clear hz
  go_enter Tryz.func26, Tryz.ntmps26
  go_upto_region 1 with fail
  obtain ⟨g1, hB0, hsz⟩ := one_block w (.cells #[.bool false, .slice none 0 0, .slice none 0 0] 27)
  generalize w.alloc (.cells #[.bool false, .slice none 0 0, .slice none 0 0] 27) = W at *
  have HG := Lib.hid g1
  have HB0 := Lib.hid (show Bel w W from hB0)
  clear g1 hB0 hsz
  generalize hj : w.heap.size = j2 at *
  have HJ := Lib.hid hj
  clear hj
  go_wp2_with fail
  refine (scut_m_calls _).mono ?_
  rintro e w2 ⟨rfl, hb⟩
  have HG2 := Lib.hid (block_of hb HG.out)
  have HB2 := Lib.hid (show Bel w w2 from HB0.out.trans (hb.mono HB0.out.size))
  clear hb
  go_wp2_with fail
  refine (WR.out _).mono ?_
  rintro e w3 ⟨v, rfl, hno, hb⟩
  obtain ⟨a3, c3, rfl⟩ := hno.slice
  have HLT3 := Lib.hid (heap_lt HG2.out)
  have HG3 := Lib.hid (block_of hb HG2.out)
  have HB3 := Lib.hid (show Bel w w3 from HB2.out.trans (hb.mono HB2.out.size))
  have HN := Lib.hid hno
  have HA3 := Lib.hid (show Bel w (w3.alloc (.cells #[.bool (decide (z < 0)), .slice a3 (Dg.db B64 z.natAbs).length c3] 25)) from HB3.out.alloc HB3.out.size _)
  have ga := heap_alloc_new w3 (.cells #[.bool false, .slice none 0 0] 25)
  have e0 := frozen_of_row _ _ 0 _ _ ga
  have e1 := frozen_of_row _ _ 1 _ _ ga
  have r0 := cell_of_row _ _ 0 _ _ (0, 0) ga
  have r1 := cell_of_row _ _ 1 _ _ (0, 0) ga
  have HGA := Lib.hid (heap_alloc_new w3 (.cells #[.bool (decide (z < 0)), .slice a3 (Dg.db B64 z.natAbs).length c3] 25))
  have HGB := Lib.hid ((heap_alloc_old w3 (.cells #[.bool (decide (z < 0)), .slice a3 (Dg.db B64 z.natAbs).length c3] 25) (heap_lt HG3.out)).trans HG3.out)
  have HNA := Lib.hid (HN.out.below ((Below.refl w3.heap.size w3).alloc (Nat.le_refl _) (.cells #[.bool (decide (z < 0)), .slice a3 (Dg.db B64 z.natAbs).length c3] 25)))
  clear ga hno hb
  generalize hze : decide (z < 0) = bb at *
  have HZE := Lib.hid hze
  clear hze
  go_wp2_with fail
  refine (DR.out _).mono ?_
  rintro e w4 ⟨v, rfl, hno, hb⟩
  obtain ⟨a4, c4, rfl⟩ := hno.slice
  clear e0 e1 r0 r1
  have HG4 := Lib.hid (block_of hb HGB.out)
  have HQ4 := block_of hb HGA.out
  have HB4 := Lib.hid (show Bel w w4 from HA3.out.trans (hb.mono HA3.out.size))
  have HN4 := Lib.hid (HNA.out.below hb)
  have HD4 := Lib.hid hno
  have HLT4 := Lib.hid (show j2 < (w3.alloc (.cells #[.bool bb, .slice a3 (Dg.db B64 z.natAbs).length c3] 25)).heap.size from heap_lt HGB.out)
  have HK := Lib.hid HQ4
  clear hno hb
  generalize w3.heap.size = q7 at *
  have x0 := cell_of_row _ _ 0 _ _ (0, 0) HQ4
  have x1 := cell_of_row _ _ 1 _ _ (0, 0) HQ4
  clear HQ4
  have ga := heap_alloc_new w4 (.cells #[.bool false, .slice none 0 0, .slice none 0 0] 27)
  have e0 := frozen_of_row _ _ 0 _ _ ga
  have e1 := frozen_of_row _ _ 1 _ _ ga
  have e2 := frozen_of_row _ _ 2 _ _ ga
  have r0 := cell_of_row _ _ 0 _ _ (0, 0) ga
  have r1 := cell_of_row _ _ 1 _ _ (0, 0) ga
  have r2 := cell_of_row _ _ 2 _ _ (0, 0) ga
  have hx0 := fun (o : Obj) => cell_of_row (w4.alloc o) _ 0 _ _ (0, 0) ((heap_alloc_old w4 o (heap_lt HK.out)).trans HK.out)
  have hx1 := fun (o : Obj) => cell_of_row (w4.alloc o) _ 1 _ _ (0, 0) ((heap_alloc_old w4 o (heap_lt HK.out)).trans HK.out)
  clear ga
  have HA4 := Lib.hid ((Below.refl w4.heap.size w4).alloc (Nat.le_refl _) (.cells #[.bool bb, .slice a3 (Dg.db B64 z.natAbs).length c3, .slice a4 (Dg.db B64 2).length c4] 27))
  have HGC := Lib.hid (heap_alloc_new w4 (.cells #[.bool bb, .slice a3 (Dg.db B64 z.natAbs).length c3, .slice a4 (Dg.db B64 2).length c4] 27))
  go_wp2_with fail
  refine (one_of_calls _).mono ?_
  rintro e w5 ⟨v, rfl, hno, hb⟩
  obtain ⟨a5, c5, rfl⟩ := hno.slice
  have hb45 : Below w4.heap.size w4 w5 := HA4.out.trans (hb.mono HA4.out.size)
  have HG5 := Lib.hid (block_of hb45 HG4.out)
  have HQ5 := block_of hb HGC.out
  have HB5 := Lib.hid (show Bel w w5 from HB4.out.trans (hb45.mono HB4.out.size))
  have HN5 := Lib.hid (HN4.out.below hb45)
  have HD5 := Lib.hid (HD4.out.below hb45)
  have HE5 := Lib.hid (EQ.out w5 _ _ HD5.out.nv hno.nv)
  have HM5 := Lib.hid (MY.out _ _ w5 HN5.out.nv HD5.out.nv)
  clear hno hb hb45 e0 e1 e2 r0 r1 r2 hx0 hx1 x0 x1
  generalize w4.heap.size = q10 at *
  have x0 := cell_of_row _ _ 0 _ _ (0, 0) HQ5
  have x1 := cell_of_row _ _ 1 _ _ (0, 0) HQ5
  have x2 := cell_of_row _ _ 2 _ _ (0, 0) HQ5
  have HK5 := Lib.hid HQ5
  clear HQ5
  go_wp2_with fail
  refine HE5.out.mono ?_
  rintro e w6 ⟨rfl, rfl⟩
  go_wp2_with fail
  refine HM5.out.mono ?_
  rintro e w6 ⟨rfl, hb⟩
  have hg6 := block_of hb HG5.out
  have HG6 := Lib.hid hg6
  have HQ6 := block_of hb HK5.out
  have HB6 := Lib.hid (show Below w.heap.size w w6 from HB5.out.trans (hb.mono HB5.out.size))
  have HN6 := Lib.hid (HN5.out.below hb)
  have HD6 := Lib.hid (HD5.out.below hb)
  have t0 := frozen_of_row _ _ 0 _ _ hg6
  have t1 := frozen_of_row _ _ 1 _ _ hg6
  have t2 := frozen_of_row _ _ 2 _ _ hg6
  have v0 := cell_of_row _ _ 0 _ _ (0, 0) hg6
  have v1 := cell_of_row _ _ 1 _ _ (0, 0) hg6
  have v2 := cell_of_row _ _ 2 _ _ (0, 0) hg6
  have y0 := cell_of_row _ _ 0 _ _ (0, 0) HQ6
  have y1 := cell_of_row _ _ 1 _ _ (0, 0) HQ6
  have y2 := cell_of_row _ _ 2 _ _ (0, 0) HQ6
  clear hb hg6 HQ6
  go_wp2_with fail
  refine ret_row_tmp rfl _ _ j2 27 _ (0, 0) rfl (stored3 HG6.out _ _ _) und_Rat size_Rat ?_
  have hge : w.heap.size ≤ j2 := by rw [HJ.out]; exact Nat.le_refl _
  have hz1 : (-1 : Int) = z := by rw [← HZ.out]; rfl
  rw [hz1]
  exact ⟨_, rfl, ⟨_, _, by rw [HZE.out], (filled3 HB6.out hge _ _ _).2 _ _ _ HLT3.out HN6.out, (filled3 HB6.out hge _ _ _).2 _ _ _ HLT4.out HD6.out⟩, (filled3 HB6.out hge _ _ _).1⟩
end Go.Proofs.YthlpfhenaakljaaGreatDoor
