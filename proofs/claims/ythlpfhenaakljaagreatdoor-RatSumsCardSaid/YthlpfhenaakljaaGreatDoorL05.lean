/- rat.Quo. rat.Cmp. Lowest terms; rat.Same, rat.Sub. Slices of fractions; rat.Sum. ref02.cut, ref02.Digits. ref02.Join, Trim, Of, Small, Same. ref02.Trim, Of, Small, Same. -/
import Derived.Test.YthlpfhenaakljaaGreatDoorL04
import Derived.Test.YthlpfhenaakljaaGreatDoorL02
namespace Go.Proofs.YthlpfhenaakljaaGreatDoor
open Go.RowKit

/-- What rat.Quo answers. -/
def RetQuo (z1 : Int) (d1 : Nat) (z2 : Int) (d2 : Nat) (w : World) (e : Ending) (w' : World) : Prop :=
  Below w.heap.size w w' ∧ (z2 = 0 → e = .returned (.tuple #[.agg #[.bool false, .slice none 0 0, .slice none 0 0], .int .i64 7])) ∧
  (z2 ≠ 0 → ∃ v, e = .returned (.tuple #[v, .int .i64 0]) ∧ RR (nrm (sgn (!(decide (z1 < 0) == decide (z2 < 0))) (z1.natAbs * d2)) (d1 * z2.natAbs)) (nrd (sgn (!(decide (z1 < 0) == decide (z2 < 0))) (z1.natAbs * d2)) (d1 * z2.natAbs)) w.heap.size w' v)

theorem quo_len {m n p q : Nat} {b : Bool} (h1 : (Dg.db B64 m).length ≤ p) (h2 : (Dg.db B64 n).length ≤ q) : (Dg.db B64 (sgn b (m * n)).natAbs).length ≤ p + q := by
  rw [sgn_abs]; exact db_mul_len h1 h2

set_option maxHeartbeats 3200000 in
theorem rquo0_calls (b1 b2 : Bool) (m1 m2 m3 m4 : Value) (xs ys us vs : List Nat) (z1 z2 : Int) (d1 d2 : Nat) (w : World) (h1 : Nv w m1 xs) (h2 : Nv w m2 ys) (h3 : Nv w m3 us) (h4 : Nv w m4 vs)
    (l1 : xs.length ≤ 34359738368) (l2 : ys.length ≤ 34359738368) (l3 : us.length ≤ 34359738368) (l4 : vs.length ≤ 34359738368)
    (hz1 : z1 = redZ b1 (Dg.dv B64 xs) (Dg.dv B64 ys)) (hd1 : d1 = redD (Dg.dv B64 xs) (Dg.dv B64 ys)) (hz2 : z2 = redZ b2 (Dg.dv B64 us) (Dg.dv B64 vs)) (hd2 : d2 = redD (Dg.dv B64 us) (Dg.dv B64 vs)) (h0 : z2 = 0) :
    Calls Tryz.prog 7 #[.agg #[.bool b1, m1, m2], .agg #[.bool b2, m3, m4]] w (RetQuo z1 d1 z2 d2 w) := by
  obtain ⟨_, a1, c1, rfl, _, _⟩ := id h1
  obtain ⟨_, a2, c2, rfl, _, _⟩ := id h2
  obtain ⟨_, a3, c3, rfl, _, _⟩ := id h3
  obtain ⟨_, a4, c4, rfl, _, _⟩ := id h4
  have HL := Lib.hid (redLens b1 b2 h1 h2 h3 h4 l1 l2 l3 l4)
  have HD12 := Lib.hid (redPos b1 b2 h1 h2 h3 h4)
  have C1 := Lib.hid (fun wx (hb : Below w.heap.size w wx) => count_calls b1 _ _ xs ys wx (h1.below hb) (h2.below hb) (by omega) (by omega))
  have C2 := Lib.hid (fun wx (hb : Below w.heap.size w wx) => count_calls b2 _ _ us vs wx (h3.below hb) (h4.below hb) (by omega) (by omega))
  rw [← hz1, ← hd1] at C1
  rw [← hz2, ← hd2] at C2
  rw [← hz1, ← hd1, ← hz2, ← hd2] at HL
  rw [← hd1, ← hd2] at HD12
  clear h1 h2 h3 h4 hz1 hz2 hd1 hd2
  have H0 := Lib.hid h0
  clear h0
  go_enter Tryz.func7, Tryz.ntmps7
  go_upto_region 1 with fail
  obtain ⟨g1, g2, g3, hB0, hsz⟩ := three_blocks w (.cells #[.bool b1, .slice a1 xs.length c1, .slice a2 ys.length c2] 27) (.cells #[.bool b2, .slice a3 us.length c3, .slice a4 vs.length c4] 27) (.cells #[.bool false, .slice none 0 0, .slice none 0 0] 27)
  generalize ((w.alloc (.cells #[.bool b1, .slice a1 xs.length c1, .slice a2 ys.length c2] 27)).alloc (.cells #[.bool b2, .slice a3 us.length c3, .slice a4 vs.length c4] 27)).alloc (.cells #[.bool false, .slice none 0 0, .slice none 0 0] 27) = W at *
  have q1 : W.drew.heap[w.heap.size]? = _ := g1
  have q2 : W.drew.heap[w.heap.size + 1]? = _ := g2
  have HQ3 := Lib.hid (show W.drew.heap[w.heap.size + 1 + 1]? = _ from g3)
  have x0 := cell_of_row _ _ 0 _ _ (0, 0) g1
  have x1 := cell_of_row _ _ 1 _ _ (0, 0) g1
  have x2 := cell_of_row _ _ 2 _ _ (0, 0) g1
  have y0 := cell_of_row _ _ 0 _ _ (0, 0) g2
  have y1 := cell_of_row _ _ 1 _ _ (0, 0) g2
  have y2 := cell_of_row _ _ 2 _ _ (0, 0) g2
  have hn1 : w.heap.size ≠ w.heap.size + 1 := by omega
  have hn2 : w.heap.size + 1 ≠ w.heap.size := by omega
  have HBX := Lib.hid hB0.drew
  have HSX := Lib.hid (show w.heap.size ≤ W.drew.heap.size by have : W.drew.heap.size = W.heap.size := rfl; omega)
  have HL3 := Lib.hid hsz
  have HN3 := Lib.hid (show w.heap.size ≤ w.heap.size + 1 ∧ w.heap.size + 1 ≠ w.heap.size + 1 + 1 ∧ w.heap.size ≠ w.heap.size + 1 + 1 ∧ w.heap.size ≤ w.heap.size + 1 + 1 ∧ w.heap.size + 1 ≤ w.heap.size + 1 + 1 by omega)
  clear g1 g2 g3 hB0 hsz
  generalize w.heap.size + 1 + 1 = j3 at *
  generalize w.heap.size + 1 = j2 at *
  generalize hj1 : w.heap.size = j1 at *
  have HJ1 := Lib.hid hj1
  clear hj1
  go_cut [] (fun wx => Hid (TwoSt w j1 j2 j3 z1 z2 d1 d2 wx))
  case rest =>
    clear q1 q2 HQ3 x0 x1 x2 y0 y1 y2 HBX HSX HL3 C1 C2
    have hj := HJ1.out
    obtain ⟨a1, c1, a2, c2, a3, c3, a4, c4, q1, q2, q3, p1, p2, p3, p4, hb⟩ := hcut.out
    clear hcut
    have CN1 := Lib.hid (fun wy (hb : TwoAt wc j1 j2 j3 (decide (z1 < 0)) (decide (z2 < 0)) (.slice a1 (Dg.db B64 z1.natAbs).length c1) (.slice a2 (Dg.db B64 d1).length c2) (.slice a3 (Dg.db B64 z2.natAbs).length c3) (.slice a4 (Dg.db B64 d2).length c4) wy) => mul_calls _ _ _ _ wy (p1.nv.below hb.bel) (p4.nv.below hb.bel) (by have := HL.out; omega) (by have := HL.out; omega))
    rw [Dg.dv_db (by decide), Dg.dv_db (by decide)] at CN1
    have CN2 := Lib.hid (fun wy (hb : TwoAt wc j1 j2 j3 (decide (z1 < 0)) (decide (z2 < 0)) (.slice a1 (Dg.db B64 z1.natAbs).length c1) (.slice a2 (Dg.db B64 d1).length c2) (.slice a3 (Dg.db B64 z2.natAbs).length c3) (.slice a4 (Dg.db B64 d2).length c4) wy) => mul_calls _ _ _ _ wy (p2.nv.below hb.bel) (p3.nv.below hb.bel) (by have := HL.out; omega) (by have := HL.out; omega))
    rw [Dg.dv_db (by decide), Dg.dv_db (by decide)] at CN2
    have HL1 := Lib.hid (show (Dg.db B64 (z1.natAbs * d2)).length ≤ 1099511627776 from Nat.le_trans (db_mul_len HL.out.1 HL.out.2.2.2) (by omega))
    have HLM := Lib.hid (show (Dg.db B64 (sgn (!(decide (z1 < 0) == decide (z2 < 0))) (z1.natAbs * d2)).natAbs).length ≤ 549755813888 from Nat.le_trans (quo_len HL.out.1 HL.out.2.2.2) (by omega))
    have HLD := Lib.hid (show (Dg.db B64 (d1 * z2.natAbs)).length ≤ 549755813888 from Nat.le_trans (db_mul_len HL.out.2.1 HL.out.2.2.1) (by omega))
    have HD0 := Lib.hid (show d1 * z2.natAbs = 0 by rw [Int.natAbs_eq_zero.2 H0.out, Nat.mul_zero])
    have HST := Lib.hid (show TwoAt wc j1 j2 j3 (decide (z1 < 0)) (decide (z2 < 0)) (.slice a1 (Dg.db B64 z1.natAbs).length c1) (.slice a2 (Dg.db B64 d1).length c2) (.slice a3 (Dg.db B64 z2.natAbs).length c3) (.slice a4 (Dg.db B64 d2).length c4) wc from ⟨Below.refl _ _, q1, q2, q3⟩)
    have nw1 : j1 ≠ wc.heap.size := Nat.ne_of_lt (heap_lt q1)
    have nw2 : j2 ≠ wc.heap.size := Nat.ne_of_lt (heap_lt q2)
    have nw3 := Ne.symm nw1
    have nw4 := Ne.symm nw2
    have HSX := Lib.hid (Nat.le_refl wc.heap.size)
    have HBW := Lib.hid hb
    have HGE := Lib.hid (show w.heap.size ≤ j3 by rw [hj]; exact HN3.out.2.2.2.1)
    have HJ3 := Lib.hid (heap_lt q3)
    have x0 := cell_of_row _ _ 0 _ _ (0, 0) HST.out.r1
    have x1 := cell_of_row _ _ 1 _ _ (0, 0) HST.out.r1
    have x2 := cell_of_row _ _ 2 _ _ (0, 0) HST.out.r1
    have y0 := cell_of_row _ _ 0 _ _ (0, 0) HST.out.r2
    have y1 := cell_of_row _ _ 1 _ _ (0, 0) HST.out.r2
    have y2 := cell_of_row _ _ 2 _ _ (0, 0) HST.out.r2
    clear q1 q2 q3 p1 p2 p3 p4 hb hj
    generalize (Dg.db B64 z1.natAbs).length = n1 at *
    generalize (Dg.db B64 d1).length = n2 at *
    generalize (Dg.db B64 z2.natAbs).length = n3 at *
    generalize (Dg.db B64 d2).length = n4 at *
    generalize hZQ : sgn (!(decide (z1 < 0) == decide (z2 < 0))) (z1.natAbs * d2) = ZQ at *
    have HZQ := Lib.hid hZQ
    clear hZQ
    generalize hs1 : decide (z1 < 0) = s1 at *
    generalize hs2 : decide (z2 < 0) = s2 at *
    have HS12 := Lib.hid (And.intro hs1 hs2)
    clear hs1 hs2
    have nj13 := HN3.out.2.2.1
    have nj23 := HN3.out.2.1
    have nj31 := Ne.symm nj13
    have nj32 := Ne.symm nj23
    go_upto_region 2 with fail
    go_region_held3 (fun w' => w'.cell? ⟨j1, 0, none⟩ = some (.bool s1) ∧ w'.cell? ⟨j1, 1, none⟩ = some (.slice a1 n1 c1) ∧ w'.cell? ⟨j1, 2, none⟩ = some (.slice a2 n2 c2) ∧ w'.cell? ⟨j2, 0, none⟩ = some (.bool s2) ∧ w'.cell? ⟨j2, 1, none⟩ = some (.slice a3 n3 c3) ∧ w'.cell? ⟨j2, 2, none⟩ = some (.slice a4 n4 c4)) (go_keep)
      (first
        | (go_at_call_of 33 (Value.slice a1 n1 c1)
           refine Calls.mono (CN1.out _ (by first | exact HST.out | exact HST.out.drew | exact HST.out.alloc _ | exact (HST.out.alloc _).drew)) ?_
           rintro e w1 ⟨v, rfl, hno, hb⟩
           obtain ⟨a7, c7, rfl⟩ := hno.slice
           have HNA := Lib.hid hno.nv
           clear hno
           have HST := Lib.hid (TwoAt.call (by first | exact HST.out | exact HST.out.drew | exact HST.out.alloc _ | exact (HST.out.alloc _).drew) hb)
           have HSX := Lib.hid (show wc.heap.size ≤ w1.heap.size from HST.out.bel.size)
           have x0 := cell_of_row _ _ 0 _ _ (0, 0) HST.out.r1
           have x1 := cell_of_row _ _ 1 _ _ (0, 0) HST.out.r1
           have x2 := cell_of_row _ _ 2 _ _ (0, 0) HST.out.r1
           have y0 := cell_of_row _ _ 0 _ _ (0, 0) HST.out.r2
           have y1 := cell_of_row _ _ 1 _ _ (0, 0) HST.out.r2
           have y2 := cell_of_row _ _ 2 _ _ (0, 0) HST.out.r2
           clear hb)
        | (go_at_call 32
           refine Calls.mono (wmake_calls (!(s1 == s2)) _ _ _ (by first | exact HNA.out | exact HNA.out.drew | exact HNA.out.alloc _ | exact (Nv.alloc HNA.out _).drew) HL1.out) ?_
           rintro e w2 ⟨v, rfl, hno, hb⟩
           rw [Dg.dv_db (by decide), HZQ.out] at hno ⊢
           obtain ⟨a8, c8, rfl⟩ := hno.slice
           have HNW := Lib.hid hno.nv
           clear hno
           have HST := Lib.hid (TwoAt.call (by first | exact HST.out | exact HST.out.drew | exact HST.out.alloc _ | exact (HST.out.alloc _).drew) hb)
           have HSX := Lib.hid (show wc.heap.size ≤ w2.heap.size from HST.out.bel.size)
           have x0 := cell_of_row _ _ 0 _ _ (0, 0) HST.out.r1
           have x1 := cell_of_row _ _ 1 _ _ (0, 0) HST.out.r1
           have x2 := cell_of_row _ _ 2 _ _ (0, 0) HST.out.r1
           have y0 := cell_of_row _ _ 0 _ _ (0, 0) HST.out.r2
           have y1 := cell_of_row _ _ 1 _ _ (0, 0) HST.out.r2
           have y2 := cell_of_row _ _ 2 _ _ (0, 0) HST.out.r2
           clear hb)
        | (go_at_call_of 33 (Value.slice a2 n2 c2)
           refine Calls.mono (CN2.out _ (by first | exact HST.out | exact HST.out.drew | exact HST.out.alloc _ | exact (HST.out.alloc _).drew)) ?_
           rintro e w3 ⟨v, rfl, hno, hb⟩
           obtain ⟨aN, cN, rfl⟩ := hno.slice
           have HNN := Lib.hid hno.nv
           clear hno
           have HNW := Lib.hid (Nv.below (by first | exact HNW.out | exact HNW.out.alloc _) hb)
           have HST := Lib.hid (TwoAt.call (by first | exact HST.out | exact HST.out.drew | exact HST.out.alloc _ | exact (HST.out.alloc _).drew) hb)
           have HSX := Lib.hid (show wc.heap.size ≤ w3.heap.size from HST.out.bel.size)
           have x0 := cell_of_row _ _ 0 _ _ (0, 0) HST.out.r1
           have x1 := cell_of_row _ _ 1 _ _ (0, 0) HST.out.r1
           have x2 := cell_of_row _ _ 2 _ _ (0, 0) HST.out.r1
           have y0 := cell_of_row _ _ 0 _ _ (0, 0) HST.out.r2
           have y1 := cell_of_row _ _ 1 _ _ (0, 0) HST.out.r2
           have y2 := cell_of_row _ _ 2 _ _ (0, 0) HST.out.r2
           clear hb)
        | (go_at_call 23
           refine Calls.mono (rmake_calls _ _ _ _ _ _ (by first | exact HNW.out | exact HNW.out.drew | exact HNW.out.alloc _ | exact (Nv.alloc HNW.out _).drew) (by first | exact HNN.out | exact HNN.out.drew | exact HNN.out.alloc _ | exact (Nv.alloc HNN.out _).drew) HLM.out HLD.out) ?_
           rintro e w4 ⟨hb, hq, _⟩
           rw [Dg.dv_db (by decide)] at hq
           obtain rfl := hq HD0.out
           clear hq
           have HST := Lib.hid (TwoAt.call (by first | exact HST.out | exact HST.out.drew | exact HST.out.alloc _ | exact (HST.out.alloc _).drew) hb)
           have HSX := Lib.hid (show wc.heap.size ≤ w4.heap.size from HST.out.bel.size)
           have x0 := cell_of_row _ _ 0 _ _ (0, 0) HST.out.r1
           have x1 := cell_of_row _ _ 1 _ _ (0, 0) HST.out.r1
           have x2 := cell_of_row _ _ 2 _ _ (0, 0) HST.out.r1
           have y0 := cell_of_row _ _ 0 _ _ (0, 0) HST.out.r2
           have y1 := cell_of_row _ _ 1 _ _ (0, 0) HST.out.r2
           have y2 := cell_of_row _ _ 2 _ _ (0, 0) HST.out.r2
           have t0 := frozen_of_row _ _ 0 _ _ HST.out.r3
           have v0 := cell_of_row _ _ 0 _ _ (0, 0) HST.out.r3
           have t1 := frozen_of_row _ _ 1 _ _ HST.out.r3
           have v1 := cell_of_row _ _ 1 _ _ (0, 0) HST.out.r3
           have t2 := frozen_of_row _ _ 2 _ _ HST.out.r3
           have v2 := cell_of_row _ _ 2 _ _ (0, 0) HST.out.r3
           clear hb))
    go_wp2_with fail
    have HBE := Lib.hid (HBW.out.trans (HST.out.bel.mono HBW.out.size))
    refine ret_row_tmp rfl _ _ j3 27 _ (0, 0) rfl (stored3 HST.out.r3 _ _ _) und_Rat size_Rat ?_
    exact ⟨(filled3 HBE.out HGE.out _ _ _).1, fun _ => rfl, fun h => absurd H0.out h⟩
  go_region_with (first
    | (go_at_call_of 31 (Value.agg #[.bool b1, .slice a1 xs.length c1, .slice a2 ys.length c2])
       refine Calls.mono (C1.out _ HBX.out) ?_
       rintro e wP ⟨v, rfl, ⟨vn, vd, rfl, hn, hdn⟩, hbP⟩
       obtain ⟨a5P, c5P, rfl⟩ := hn.slice
       obtain ⟨a6P, c6P, rfl⟩ := hdn.slice
       have HNP := Lib.hid hn
       have HDP := Lib.hid hdn
       have HBX := Lib.hid (HBX.out.trans (hbP.mono HSX.out))
       have HSX := Lib.hid (Nat.le_trans HSX.out hbP.size)
       have q1 := block_of hbP q1
       have q2 := block_of hbP q2
       have HQ3 := Lib.hid (block_of hbP HQ3.out)
       have HBLP := Lib.hid hbP
       have x0 := cell_of_row _ _ 0 _ _ (0, 0) q1
       have x1 := cell_of_row _ _ 1 _ _ (0, 0) q1
       have x2 := cell_of_row _ _ 2 _ _ (0, 0) q1
       have y0 := cell_of_row _ _ 0 _ _ (0, 0) q2
       have y1 := cell_of_row _ _ 1 _ _ (0, 0) q2
       have y2 := cell_of_row _ _ 2 _ _ (0, 0) q2
       have f0 := frozen_of_row _ _ 0 _ _ q1
       have f1 := frozen_of_row _ _ 1 _ _ q1
       have f2 := frozen_of_row _ _ 2 _ _ q1
       have k0 := frozen_of_row _ _ 0 _ _ q2
       have k1 := frozen_of_row _ _ 1 _ _ q2
       have k2 := frozen_of_row _ _ 2 _ _ q2
       clear hn hdn hbP)
    | (go_at_call_of 31 (Value.agg #[.bool b2, .slice a3 us.length c3, .slice a4 vs.length c4])
       refine Calls.mono (C2.out _ HBX.out) ?_
       rintro e wQ ⟨v, rfl, ⟨vn, vd, rfl, hn, hdn⟩, hbQ⟩
       obtain ⟨a5Q, c5Q, rfl⟩ := hn.slice
       obtain ⟨a6Q, c6Q, rfl⟩ := hdn.slice
       have HNQ := Lib.hid hn
       have HDQ := Lib.hid hdn
       have HBX := Lib.hid (HBX.out.trans (hbQ.mono HSX.out))
       have HSX := Lib.hid (Nat.le_trans HSX.out hbQ.size)
       have q1 := block_of hbQ q1
       have q2 := block_of hbQ q2
       have HQ3 := Lib.hid (block_of hbQ HQ3.out)
       have HBLQ := Lib.hid hbQ
       have x0 := cell_of_row _ _ 0 _ _ (0, 0) q1
       have x1 := cell_of_row _ _ 1 _ _ (0, 0) q1
       have x2 := cell_of_row _ _ 2 _ _ (0, 0) q1
       have y0 := cell_of_row _ _ 0 _ _ (0, 0) q2
       have y1 := cell_of_row _ _ 1 _ _ (0, 0) q2
       have y2 := cell_of_row _ _ 2 _ _ (0, 0) q2
       have f0 := frozen_of_row _ _ 0 _ _ q1
       have f1 := frozen_of_row _ _ 1 _ _ q1
       have f2 := frozen_of_row _ _ 2 _ _ q1
       have k0 := frozen_of_row _ _ 0 _ _ q2
       have k1 := frozen_of_row _ _ 1 _ _ q2
       have k2 := frozen_of_row _ _ 2 _ _ q2
       clear hn hdn hbQ))
  all_goals go_wp2_with fail
  all_goals go_meet
  all_goals
    have hj := HJ1.out
    subst hj
    refine Lib.hid (two_fin q1 q2 HQ3.out hn1 HN3.out.2.2.1 HN3.out.2.1 HBX.out (Nat.le_refl _) HN3.out.1 HN3.out.2.2.2.1 HN3.out.2.2.2.2 (BP := W.drew.heap.size) (BQ := wP.drew.heap.size) ⟨_, _, rfl, HNP.out.below HBLQ.out, HDP.out.below HBLQ.out⟩ ⟨_, _, rfl, HNQ.out, HDQ.out⟩ HL3.out ?_)
    exact Nat.lt_of_lt_of_le HL3.out HBLP.out.size

set_option maxHeartbeats 3200000 in
theorem rquo1_calls (b1 b2 : Bool) (m1 m2 m3 m4 : Value) (xs ys us vs : List Nat) (z1 z2 : Int) (d1 d2 : Nat) (w : World) (h1 : Nv w m1 xs) (h2 : Nv w m2 ys) (h3 : Nv w m3 us) (h4 : Nv w m4 vs)
    (l1 : xs.length ≤ 34359738368) (l2 : ys.length ≤ 34359738368) (l3 : us.length ≤ 34359738368) (l4 : vs.length ≤ 34359738368)
    (hz1 : z1 = redZ b1 (Dg.dv B64 xs) (Dg.dv B64 ys)) (hd1 : d1 = redD (Dg.dv B64 xs) (Dg.dv B64 ys)) (hz2 : z2 = redZ b2 (Dg.dv B64 us) (Dg.dv B64 vs)) (hd2 : d2 = redD (Dg.dv B64 us) (Dg.dv B64 vs)) (h0 : z2 ≠ 0) :
    Calls Tryz.prog 7 #[.agg #[.bool b1, m1, m2], .agg #[.bool b2, m3, m4]] w (RetQuo z1 d1 z2 d2 w) := by
  obtain ⟨_, a1, c1, rfl, _, _⟩ := id h1
  obtain ⟨_, a2, c2, rfl, _, _⟩ := id h2
  obtain ⟨_, a3, c3, rfl, _, _⟩ := id h3
  obtain ⟨_, a4, c4, rfl, _, _⟩ := id h4
  have HL := Lib.hid (redLens b1 b2 h1 h2 h3 h4 l1 l2 l3 l4)
  have HD12 := Lib.hid (redPos b1 b2 h1 h2 h3 h4)
  have C1 := Lib.hid (fun wx (hb : Below w.heap.size w wx) => count_calls b1 _ _ xs ys wx (h1.below hb) (h2.below hb) (by omega) (by omega))
  have C2 := Lib.hid (fun wx (hb : Below w.heap.size w wx) => count_calls b2 _ _ us vs wx (h3.below hb) (h4.below hb) (by omega) (by omega))
  rw [← hz1, ← hd1] at C1
  rw [← hz2, ← hd2] at C2
  rw [← hz1, ← hd1, ← hz2, ← hd2] at HL
  rw [← hd1, ← hd2] at HD12
  clear h1 h2 h3 h4 hz1 hz2 hd1 hd2
  have H0 := Lib.hid h0
  clear h0
  generalize hZ : nrm (sgn (!(decide (z1 < 0) == decide (z2 < 0))) (z1.natAbs * d2)) (d1 * z2.natAbs) = Z
  generalize hD : nrd (sgn (!(decide (z1 < 0) == decide (z2 < 0))) (z1.natAbs * d2)) (d1 * z2.natAbs) = D
  have HZ := Lib.hid hZ
  have HD := Lib.hid hD
  clear hZ hD
  go_enter Tryz.func7, Tryz.ntmps7
  go_upto_region 1 with fail
  obtain ⟨g1, g2, g3, hB0, hsz⟩ := three_blocks w (.cells #[.bool b1, .slice a1 xs.length c1, .slice a2 ys.length c2] 27) (.cells #[.bool b2, .slice a3 us.length c3, .slice a4 vs.length c4] 27) (.cells #[.bool false, .slice none 0 0, .slice none 0 0] 27)
  generalize ((w.alloc (.cells #[.bool b1, .slice a1 xs.length c1, .slice a2 ys.length c2] 27)).alloc (.cells #[.bool b2, .slice a3 us.length c3, .slice a4 vs.length c4] 27)).alloc (.cells #[.bool false, .slice none 0 0, .slice none 0 0] 27) = W at *
  have q1 : W.drew.heap[w.heap.size]? = _ := g1
  have q2 : W.drew.heap[w.heap.size + 1]? = _ := g2
  have HQ3 := Lib.hid (show W.drew.heap[w.heap.size + 1 + 1]? = _ from g3)
  have x0 := cell_of_row _ _ 0 _ _ (0, 0) g1
  have x1 := cell_of_row _ _ 1 _ _ (0, 0) g1
  have x2 := cell_of_row _ _ 2 _ _ (0, 0) g1
  have y0 := cell_of_row _ _ 0 _ _ (0, 0) g2
  have y1 := cell_of_row _ _ 1 _ _ (0, 0) g2
  have y2 := cell_of_row _ _ 2 _ _ (0, 0) g2
  have hn1 : w.heap.size ≠ w.heap.size + 1 := by omega
  have hn2 : w.heap.size + 1 ≠ w.heap.size := by omega
  have HBX := Lib.hid hB0.drew
  have HSX := Lib.hid (show w.heap.size ≤ W.drew.heap.size by have : W.drew.heap.size = W.heap.size := rfl; omega)
  have HL3 := Lib.hid hsz
  have HN3 := Lib.hid (show w.heap.size ≤ w.heap.size + 1 ∧ w.heap.size + 1 ≠ w.heap.size + 1 + 1 ∧ w.heap.size ≠ w.heap.size + 1 + 1 ∧ w.heap.size ≤ w.heap.size + 1 + 1 ∧ w.heap.size + 1 ≤ w.heap.size + 1 + 1 by omega)
  clear g1 g2 g3 hB0 hsz
  generalize w.heap.size + 1 + 1 = j3 at *
  generalize w.heap.size + 1 = j2 at *
  generalize hj1 : w.heap.size = j1 at *
  have HJ1 := Lib.hid hj1
  clear hj1
  go_cut [] (fun wx => Hid (TwoSt w j1 j2 j3 z1 z2 d1 d2 wx))
  case rest =>
    clear q1 q2 HQ3 x0 x1 x2 y0 y1 y2 HBX HSX HL3 C1 C2
    have hj := HJ1.out
    obtain ⟨a1, c1, a2, c2, a3, c3, a4, c4, q1, q2, q3, p1, p2, p3, p4, hb⟩ := hcut.out
    clear hcut
    have CN1 := Lib.hid (fun wy (hb : TwoAt wc j1 j2 j3 (decide (z1 < 0)) (decide (z2 < 0)) (.slice a1 (Dg.db B64 z1.natAbs).length c1) (.slice a2 (Dg.db B64 d1).length c2) (.slice a3 (Dg.db B64 z2.natAbs).length c3) (.slice a4 (Dg.db B64 d2).length c4) wy) => mul_calls _ _ _ _ wy (p1.nv.below hb.bel) (p4.nv.below hb.bel) (by have := HL.out; omega) (by have := HL.out; omega))
    rw [Dg.dv_db (by decide), Dg.dv_db (by decide)] at CN1
    have CN2 := Lib.hid (fun wy (hb : TwoAt wc j1 j2 j3 (decide (z1 < 0)) (decide (z2 < 0)) (.slice a1 (Dg.db B64 z1.natAbs).length c1) (.slice a2 (Dg.db B64 d1).length c2) (.slice a3 (Dg.db B64 z2.natAbs).length c3) (.slice a4 (Dg.db B64 d2).length c4) wy) => mul_calls _ _ _ _ wy (p2.nv.below hb.bel) (p3.nv.below hb.bel) (by have := HL.out; omega) (by have := HL.out; omega))
    rw [Dg.dv_db (by decide), Dg.dv_db (by decide)] at CN2
    have HL1 := Lib.hid (show (Dg.db B64 (z1.natAbs * d2)).length ≤ 1099511627776 from Nat.le_trans (db_mul_len HL.out.1 HL.out.2.2.2) (by omega))
    have HLM := Lib.hid (show (Dg.db B64 (sgn (!(decide (z1 < 0) == decide (z2 < 0))) (z1.natAbs * d2)).natAbs).length ≤ 549755813888 from Nat.le_trans (quo_len HL.out.1 HL.out.2.2.2) (by omega))
    have HLD := Lib.hid (show (Dg.db B64 (d1 * z2.natAbs)).length ≤ 549755813888 from Nat.le_trans (db_mul_len HL.out.2.1 HL.out.2.2.1) (by omega))
    have HD0 := Lib.hid (Nat.mul_ne_zero HD12.out.1 (Int.natAbs_ne_zero.2 H0.out))
    have HST := Lib.hid (show TwoAt wc j1 j2 j3 (decide (z1 < 0)) (decide (z2 < 0)) (.slice a1 (Dg.db B64 z1.natAbs).length c1) (.slice a2 (Dg.db B64 d1).length c2) (.slice a3 (Dg.db B64 z2.natAbs).length c3) (.slice a4 (Dg.db B64 d2).length c4) wc from ⟨Below.refl _ _, q1, q2, q3⟩)
    have nw1 : j1 ≠ wc.heap.size := Nat.ne_of_lt (heap_lt q1)
    have nw2 : j2 ≠ wc.heap.size := Nat.ne_of_lt (heap_lt q2)
    have nw3 := Ne.symm nw1
    have nw4 := Ne.symm nw2
    have HSX := Lib.hid (Nat.le_refl wc.heap.size)
    have HBW := Lib.hid hb
    have HGE := Lib.hid (show w.heap.size ≤ j3 by rw [hj]; exact HN3.out.2.2.2.1)
    have HJ3 := Lib.hid (heap_lt q3)
    have x0 := cell_of_row _ _ 0 _ _ (0, 0) HST.out.r1
    have x1 := cell_of_row _ _ 1 _ _ (0, 0) HST.out.r1
    have x2 := cell_of_row _ _ 2 _ _ (0, 0) HST.out.r1
    have y0 := cell_of_row _ _ 0 _ _ (0, 0) HST.out.r2
    have y1 := cell_of_row _ _ 1 _ _ (0, 0) HST.out.r2
    have y2 := cell_of_row _ _ 2 _ _ (0, 0) HST.out.r2
    clear q1 q2 q3 p1 p2 p3 p4 hb hj
    generalize (Dg.db B64 z1.natAbs).length = n1 at *
    generalize (Dg.db B64 d1).length = n2 at *
    generalize (Dg.db B64 z2.natAbs).length = n3 at *
    generalize (Dg.db B64 d2).length = n4 at *
    generalize hZQ : sgn (!(decide (z1 < 0) == decide (z2 < 0))) (z1.natAbs * d2) = ZQ at *
    have HZQ := Lib.hid hZQ
    clear hZQ
    generalize hs1 : decide (z1 < 0) = s1 at *
    generalize hs2 : decide (z2 < 0) = s2 at *
    have HS12 := Lib.hid (And.intro hs1 hs2)
    clear hs1 hs2
    have nj13 := HN3.out.2.2.1
    have nj23 := HN3.out.2.1
    have nj31 := Ne.symm nj13
    have nj32 := Ne.symm nj23
    go_upto_region 2 with fail
    go_region_held3 (fun w' => w'.cell? ⟨j1, 0, none⟩ = some (.bool s1) ∧ w'.cell? ⟨j1, 1, none⟩ = some (.slice a1 n1 c1) ∧ w'.cell? ⟨j1, 2, none⟩ = some (.slice a2 n2 c2) ∧ w'.cell? ⟨j2, 0, none⟩ = some (.bool s2) ∧ w'.cell? ⟨j2, 1, none⟩ = some (.slice a3 n3 c3) ∧ w'.cell? ⟨j2, 2, none⟩ = some (.slice a4 n4 c4)) (go_keep)
      (first
        | (go_at_call_of 33 (Value.slice a1 n1 c1)
           refine Calls.mono (CN1.out _ (by first | exact HST.out | exact HST.out.drew | exact HST.out.alloc _ | exact (HST.out.alloc _).drew)) ?_
           rintro e w1 ⟨v, rfl, hno, hb⟩
           obtain ⟨a7, c7, rfl⟩ := hno.slice
           have HNA := Lib.hid hno.nv
           clear hno
           have HST := Lib.hid (TwoAt.call (by first | exact HST.out | exact HST.out.drew | exact HST.out.alloc _ | exact (HST.out.alloc _).drew) hb)
           have HSX := Lib.hid (show wc.heap.size ≤ w1.heap.size from HST.out.bel.size)
           have x0 := cell_of_row _ _ 0 _ _ (0, 0) HST.out.r1
           have x1 := cell_of_row _ _ 1 _ _ (0, 0) HST.out.r1
           have x2 := cell_of_row _ _ 2 _ _ (0, 0) HST.out.r1
           have y0 := cell_of_row _ _ 0 _ _ (0, 0) HST.out.r2
           have y1 := cell_of_row _ _ 1 _ _ (0, 0) HST.out.r2
           have y2 := cell_of_row _ _ 2 _ _ (0, 0) HST.out.r2
           clear hb)
        | (go_at_call 32
           refine Calls.mono (wmake_calls (!(s1 == s2)) _ _ _ (by first | exact HNA.out | exact HNA.out.drew | exact HNA.out.alloc _ | exact (Nv.alloc HNA.out _).drew) HL1.out) ?_
           rintro e w2 ⟨v, rfl, hno, hb⟩
           rw [Dg.dv_db (by decide), HZQ.out] at hno ⊢
           obtain ⟨a8, c8, rfl⟩ := hno.slice
           have HNW := Lib.hid hno.nv
           clear hno
           have HST := Lib.hid (TwoAt.call (by first | exact HST.out | exact HST.out.drew | exact HST.out.alloc _ | exact (HST.out.alloc _).drew) hb)
           have HSX := Lib.hid (show wc.heap.size ≤ w2.heap.size from HST.out.bel.size)
           have x0 := cell_of_row _ _ 0 _ _ (0, 0) HST.out.r1
           have x1 := cell_of_row _ _ 1 _ _ (0, 0) HST.out.r1
           have x2 := cell_of_row _ _ 2 _ _ (0, 0) HST.out.r1
           have y0 := cell_of_row _ _ 0 _ _ (0, 0) HST.out.r2
           have y1 := cell_of_row _ _ 1 _ _ (0, 0) HST.out.r2
           have y2 := cell_of_row _ _ 2 _ _ (0, 0) HST.out.r2
           clear hb)
        | (go_at_call_of 33 (Value.slice a2 n2 c2)
           refine Calls.mono (CN2.out _ (by first | exact HST.out | exact HST.out.drew | exact HST.out.alloc _ | exact (HST.out.alloc _).drew)) ?_
           rintro e w3 ⟨v, rfl, hno, hb⟩
           obtain ⟨aN, cN, rfl⟩ := hno.slice
           have HNN := Lib.hid hno.nv
           clear hno
           have HNW := Lib.hid (Nv.below (by first | exact HNW.out | exact HNW.out.alloc _) hb)
           have HST := Lib.hid (TwoAt.call (by first | exact HST.out | exact HST.out.drew | exact HST.out.alloc _ | exact (HST.out.alloc _).drew) hb)
           have HSX := Lib.hid (show wc.heap.size ≤ w3.heap.size from HST.out.bel.size)
           have x0 := cell_of_row _ _ 0 _ _ (0, 0) HST.out.r1
           have x1 := cell_of_row _ _ 1 _ _ (0, 0) HST.out.r1
           have x2 := cell_of_row _ _ 2 _ _ (0, 0) HST.out.r1
           have y0 := cell_of_row _ _ 0 _ _ (0, 0) HST.out.r2
           have y1 := cell_of_row _ _ 1 _ _ (0, 0) HST.out.r2
           have y2 := cell_of_row _ _ 2 _ _ (0, 0) HST.out.r2
           clear hb)
        | (go_at_call 23
           refine Calls.mono (rmake_calls _ _ _ _ _ _ (by first | exact HNW.out | exact HNW.out.drew | exact HNW.out.alloc _ | exact (Nv.alloc HNW.out _).drew) (by first | exact HNN.out | exact HNN.out.drew | exact HNN.out.alloc _ | exact (Nv.alloc HNN.out _).drew) HLM.out HLD.out) ?_
           rintro e w4 ⟨hb, _, hq⟩
           rw [Dg.dv_db (by decide), Dg.dv_db (by decide)] at hq
           obtain ⟨v, rfl, hr⟩ := hq HD0.out
           rw [(rr_nrm HD0.out).1, (rr_nrm HD0.out).2, HZ.out, HD.out] at hr
           obtain ⟨vn, vd, rfl, hn, hdn⟩ := hr
           obtain ⟨a9, c9, rfl⟩ := hn.slice
           obtain ⟨aA, cA, rfl⟩ := hdn.slice
           have HN := Lib.hid hn
           have HDN := Lib.hid hdn
           have HS3 := Lib.hid (show wc.heap.size ≤ w3.heap.size from HSX.out)
           clear hq hn hdn
           have HST := Lib.hid (TwoAt.call (by first | exact HST.out | exact HST.out.drew | exact HST.out.alloc _ | exact (HST.out.alloc _).drew) hb)
           have HSX := Lib.hid (show wc.heap.size ≤ w4.heap.size from HST.out.bel.size)
           have x0 := cell_of_row _ _ 0 _ _ (0, 0) HST.out.r1
           have x1 := cell_of_row _ _ 1 _ _ (0, 0) HST.out.r1
           have x2 := cell_of_row _ _ 2 _ _ (0, 0) HST.out.r1
           have y0 := cell_of_row _ _ 0 _ _ (0, 0) HST.out.r2
           have y1 := cell_of_row _ _ 1 _ _ (0, 0) HST.out.r2
           have y2 := cell_of_row _ _ 2 _ _ (0, 0) HST.out.r2
           have t0 := frozen_of_row _ _ 0 _ _ HST.out.r3
           have v0 := cell_of_row _ _ 0 _ _ (0, 0) HST.out.r3
           have t1 := frozen_of_row _ _ 1 _ _ HST.out.r3
           have v1 := cell_of_row _ _ 1 _ _ (0, 0) HST.out.r3
           have t2 := frozen_of_row _ _ 2 _ _ HST.out.r3
           have v2 := cell_of_row _ _ 2 _ _ (0, 0) HST.out.r3
           clear hb))
    go_wp2_with fail
    have HBE := Lib.hid (HBW.out.trans (HST.out.bel.mono HBW.out.size))
    refine ret_row_tmp rfl _ _ j3 27 _ (0, 0) rfl (stored3 HST.out.r3 _ _ _) und_Rat size_Rat ?_
    have hZ := HZ.out
    have hD := HD.out
    have hq := HZQ.out
    rw [← HS12.out.1, ← HS12.out.2] at hq
    subst hq
    subst hZ hD
    exact ⟨(filled3 HBE.out HGE.out _ _ _).1, fun h => absurd h H0.out, fun _ => ⟨_, rfl, _, _, rfl, (filled3 HBE.out HGE.out _ _ _).2 _ _ _ (Nat.lt_of_lt_of_le HJ3.out HS3.out) HN.out, (filled3 HBE.out HGE.out _ _ _).2 _ _ _ (Nat.lt_of_lt_of_le HJ3.out HS3.out) HDN.out⟩⟩
  go_region_with (first
    | (go_at_call_of 31 (Value.agg #[.bool b1, .slice a1 xs.length c1, .slice a2 ys.length c2])
       refine Calls.mono (C1.out _ HBX.out) ?_
       rintro e wP ⟨v, rfl, ⟨vn, vd, rfl, hn, hdn⟩, hbP⟩
       obtain ⟨a5P, c5P, rfl⟩ := hn.slice
       obtain ⟨a6P, c6P, rfl⟩ := hdn.slice
       have HNP := Lib.hid hn
       have HDP := Lib.hid hdn
       have HBX := Lib.hid (HBX.out.trans (hbP.mono HSX.out))
       have HSX := Lib.hid (Nat.le_trans HSX.out hbP.size)
       have q1 := block_of hbP q1
       have q2 := block_of hbP q2
       have HQ3 := Lib.hid (block_of hbP HQ3.out)
       have HBLP := Lib.hid hbP
       have x0 := cell_of_row _ _ 0 _ _ (0, 0) q1
       have x1 := cell_of_row _ _ 1 _ _ (0, 0) q1
       have x2 := cell_of_row _ _ 2 _ _ (0, 0) q1
       have y0 := cell_of_row _ _ 0 _ _ (0, 0) q2
       have y1 := cell_of_row _ _ 1 _ _ (0, 0) q2
       have y2 := cell_of_row _ _ 2 _ _ (0, 0) q2
       have f0 := frozen_of_row _ _ 0 _ _ q1
       have f1 := frozen_of_row _ _ 1 _ _ q1
       have f2 := frozen_of_row _ _ 2 _ _ q1
       have k0 := frozen_of_row _ _ 0 _ _ q2
       have k1 := frozen_of_row _ _ 1 _ _ q2
       have k2 := frozen_of_row _ _ 2 _ _ q2
       clear hn hdn hbP)
    | (go_at_call_of 31 (Value.agg #[.bool b2, .slice a3 us.length c3, .slice a4 vs.length c4])
       refine Calls.mono (C2.out _ HBX.out) ?_
       rintro e wQ ⟨v, rfl, ⟨vn, vd, rfl, hn, hdn⟩, hbQ⟩
       obtain ⟨a5Q, c5Q, rfl⟩ := hn.slice
       obtain ⟨a6Q, c6Q, rfl⟩ := hdn.slice
       have HNQ := Lib.hid hn
       have HDQ := Lib.hid hdn
       have HBX := Lib.hid (HBX.out.trans (hbQ.mono HSX.out))
       have HSX := Lib.hid (Nat.le_trans HSX.out hbQ.size)
       have q1 := block_of hbQ q1
       have q2 := block_of hbQ q2
       have HQ3 := Lib.hid (block_of hbQ HQ3.out)
       have HBLQ := Lib.hid hbQ
       have x0 := cell_of_row _ _ 0 _ _ (0, 0) q1
       have x1 := cell_of_row _ _ 1 _ _ (0, 0) q1
       have x2 := cell_of_row _ _ 2 _ _ (0, 0) q1
       have y0 := cell_of_row _ _ 0 _ _ (0, 0) q2
       have y1 := cell_of_row _ _ 1 _ _ (0, 0) q2
       have y2 := cell_of_row _ _ 2 _ _ (0, 0) q2
       have f0 := frozen_of_row _ _ 0 _ _ q1
       have f1 := frozen_of_row _ _ 1 _ _ q1
       have f2 := frozen_of_row _ _ 2 _ _ q1
       have k0 := frozen_of_row _ _ 0 _ _ q2
       have k1 := frozen_of_row _ _ 1 _ _ q2
       have k2 := frozen_of_row _ _ 2 _ _ q2
       clear hn hdn hbQ))
  all_goals go_wp2_with fail
  all_goals go_meet
  all_goals
    have hj := HJ1.out
    subst hj
    refine Lib.hid (two_fin q1 q2 HQ3.out hn1 HN3.out.2.2.1 HN3.out.2.1 HBX.out (Nat.le_refl _) HN3.out.1 HN3.out.2.2.2.1 HN3.out.2.2.2.2 (BP := W.drew.heap.size) (BQ := wP.drew.heap.size) ⟨_, _, rfl, HNP.out.below HBLQ.out, HDP.out.below HBLQ.out⟩ ⟨_, _, rfl, HNQ.out, HDQ.out⟩ HL3.out ?_)
    exact Nat.lt_of_lt_of_le HL3.out HBLP.out.size

end Go.Proofs.YthlpfhenaakljaaGreatDoor

namespace Go.Proofs.YthlpfhenaakljaaGreatDoor
open Go.RowKit

/-- Behind a, b = count(a), count(b), without a result's block. -/
def TwoSt2 (w : World) (j1 j2 : Nat) (z1 z2 : Int) (d1 d2 : Nat) (wx : World) : Prop :=
  ∃ a1 c1 a2 c2 a3 c3 a4 c4,
    wx.heap[j1]? = some (.cells #[.bool (decide (z1 < 0)), .slice a1 (Dg.db B64 z1.natAbs).length c1, .slice a2 (Dg.db B64 d1).length c2] 27 (0, 0)) ∧
    wx.heap[j2]? = some (.cells #[.bool (decide (z2 < 0)), .slice a3 (Dg.db B64 z2.natAbs).length c3, .slice a4 (Dg.db B64 d2).length c4] 27 (0, 0)) ∧
    No (j2 + 1) wx (.slice a1 (Dg.db B64 z1.natAbs).length c1) (Dg.db B64 z1.natAbs) ∧ No (j2 + 1) wx (.slice a2 (Dg.db B64 d1).length c2) (Dg.db B64 d1) ∧
    No (j2 + 1) wx (.slice a3 (Dg.db B64 z2.natAbs).length c3) (Dg.db B64 z2.natAbs) ∧ No (j2 + 1) wx (.slice a4 (Dg.db B64 d2).length c4) (Dg.db B64 d2) ∧
    Below w.heap.size w wx

theorem two_fin2 {w wQ : World} {j1 j2 BP BQ d1 d2 n5 n6 m5 m6 : Nat} {z1 z2 : Int} {u0 u1 u2 v0 v1 v2 : Value} {bP bQ : Bool} {a5 a6 e5 e6 : Option Addr} {c5 c6 f5 f6 : Nat}
    (h1 : wQ.heap[j1]? = some (.cells #[u0, u1, u2] 27 (0, 0))) (h2 : wQ.heap[j2]? = some (.cells #[v0, v1, v2] 27 (0, 0)))
    (n12 : j1 ≠ j2) (hb : Below w.heap.size w wQ) (g1 : w.heap.size ≤ j1) (g2 : w.heap.size ≤ j2) (b1 : j1 ≤ j2)
    (rP : RR z1 d1 BP wQ (.agg #[.bool bP, .slice a5 n5 c5, .slice a6 n6 c6])) (rQ : RR z2 d2 BQ wQ (.agg #[.bool bQ, .slice e5 m5 f5, .slice e6 m6 f6])) (hP : j2 < BP) (hQ : j2 < BQ) :
    TwoSt2 w j1 j2 z1 z2 d1 d2 ((((((wQ.setCell ⟨j1, 0, none⟩ (.bool bP)).setCell ⟨j1, 1, none⟩ (.slice a5 n5 c5)).setCell ⟨j1, 2, none⟩ (.slice a6 n6 c6)).setCell ⟨j2, 0, none⟩ (.bool bQ)).setCell ⟨j2, 1, none⟩ (.slice e5 m5 f5)).setCell ⟨j2, 2, none⟩ (.slice e6 m6 f6)) := by
  obtain ⟨rfl, rfl, rfl, p1, p2⟩ := rP.parts
  obtain ⟨rfl, rfl, rfl, q1, q2⟩ := rQ.parts
  refine ⟨a5, c5, a6, c6, e5, f5, e6, f6, other3 (stored3 h1 _ _ _) n12 _ _ _, stored3 (other3 h2 n12.symm _ _ _) _ _ _, ?_, ?_, ?_, ?_,
    (filled3 (filled3 hb g1 _ _ _).1 g2 _ _ _).1⟩
  · exact (kept3 (kept3 p1 (by omega) _ _ _) (by omega) _ _ _).mono (by omega)
  · exact (kept3 (kept3 p2 (by omega) _ _ _) (by omega) _ _ _).mono (by omega)
  · exact (kept3 (kept3 q1 (by omega) _ _ _) (by omega) _ _ _).mono (by omega)
  · exact (kept3 (kept3 q2 (by omega) _ _ _) (by omega) _ _ _).mono (by omega)

/-- Both blocks as the second region finds them. -/
structure TwoAt2 (wc : World) (j1 j2 : Nat) (s1 s2 : Bool) (A1 A2 A3 A4 : Value) (wx : World) : Prop where
  bel : Below wc.heap.size wc wx
  r1 : wx.heap[j1]? = some (.cells #[.bool s1, A1, A2] 27 (0, 0))
  r2 : wx.heap[j2]? = some (.cells #[.bool s2, A3, A4] 27 (0, 0))

theorem TwoAt2.alloc {wc wx : World} {j1 j2 : Nat} {s1 s2 : Bool} {A1 A2 A3 A4 : Value} (h : TwoAt2 wc j1 j2 s1 s2 A1 A2 A3 A4 wx) (o : Obj) : TwoAt2 wc j1 j2 s1 s2 A1 A2 A3 A4 (wx.alloc o) :=
  ⟨h.bel.alloc h.bel.size _, (heap_alloc_old _ _ (heap_lt h.r1)).trans h.r1, (heap_alloc_old _ _ (heap_lt h.r2)).trans h.r2⟩
theorem TwoAt2.call {wc wx wy : World} {j1 j2 : Nat} {s1 s2 : Bool} {A1 A2 A3 A4 : Value} (h : TwoAt2 wc j1 j2 s1 s2 A1 A2 A3 A4 wx) (hb : Below wx.heap.size wx wy) : TwoAt2 wc j1 j2 s1 s2 A1 A2 A3 A4 wy :=
  ⟨h.bel.trans (hb.mono h.bel.size), block_of hb h.r1, block_of hb h.r2⟩
theorem TwoAt2.drew {wc wx : World} {j1 j2 : Nat} {s1 s2 : Bool} {A1 A2 A3 A4 : Value} (h : TwoAt2 wc j1 j2 s1 s2 A1 A2 A3 A4 wx) : TwoAt2 wc j1 j2 s1 s2 A1 A2 A3 A4 wx.drew :=
  ⟨h.bel.drew, h.r1, h.r2⟩

set_option maxHeartbeats 3200000 in
theorem rcmp_calls (b1 b2 : Bool) (m1 m2 m3 m4 : Value) (xs ys us vs : List Nat) (z1 z2 : Int) (d1 d2 : Nat) (w : World) (h1 : Nv w m1 xs) (h2 : Nv w m2 ys) (h3 : Nv w m3 us) (h4 : Nv w m4 vs)
    (l1 : xs.length ≤ 34359738368) (l2 : ys.length ≤ 34359738368) (l3 : us.length ≤ 34359738368) (l4 : vs.length ≤ 34359738368)
    (hz1 : z1 = redZ b1 (Dg.dv B64 xs) (Dg.dv B64 ys)) (hd1 : d1 = redD (Dg.dv B64 xs) (Dg.dv B64 ys)) (hz2 : z2 = redZ b2 (Dg.dv B64 us) (Dg.dv B64 vs)) (hd2 : d2 = redD (Dg.dv B64 us) (Dg.dv B64 vs)) :
    Calls Tryz.prog 21 #[.agg #[.bool b1, m1, m2], .agg #[.bool b2, m3, m4]] w (fun e w' => e = .returned (.int .i64 (cmpI (z1 * (d2 : Int)) (z2 * (d1 : Int)))) ∧ Below w.heap.size w w') := by
  obtain ⟨_, a1, c1, rfl, _, _⟩ := id h1
  obtain ⟨_, a2, c2, rfl, _, _⟩ := id h2
  obtain ⟨_, a3, c3, rfl, _, _⟩ := id h3
  obtain ⟨_, a4, c4, rfl, _, _⟩ := id h4
  have HL := Lib.hid (redLens b1 b2 h1 h2 h3 h4 l1 l2 l3 l4)
  have HD12 := Lib.hid (redPos b1 b2 h1 h2 h3 h4)
  have C1 := Lib.hid (fun wx (hb : Below w.heap.size w wx) => count_calls b1 _ _ xs ys wx (h1.below hb) (h2.below hb) (by omega) (by omega))
  have C2 := Lib.hid (fun wx (hb : Below w.heap.size w wx) => count_calls b2 _ _ us vs wx (h3.below hb) (h4.below hb) (by omega) (by omega))
  rw [← hz1, ← hd1] at C1
  rw [← hz2, ← hd2] at C2
  rw [← hz1, ← hd1, ← hz2, ← hd2] at HL
  rw [← hd1, ← hd2] at HD12
  clear h1 h2 h3 h4 hz1 hz2 hd1 hd2
  go_enter Tryz.func21, Tryz.ntmps21
  go_upto_region 1 with fail
  obtain ⟨g1, g2, hB0, hsz⟩ := two_blocks w (.cells #[.bool b1, .slice a1 xs.length c1, .slice a2 ys.length c2] 27) (.cells #[.bool b2, .slice a3 us.length c3, .slice a4 vs.length c4] 27)
  generalize (w.alloc (.cells #[.bool b1, .slice a1 xs.length c1, .slice a2 ys.length c2] 27)).alloc (.cells #[.bool b2, .slice a3 us.length c3, .slice a4 vs.length c4] 27) = W at *
  have q1 : W.drew.heap[w.heap.size]? = _ := g1
  have q2 : W.drew.heap[w.heap.size + 1]? = _ := g2
  have x0 := cell_of_row _ _ 0 _ _ (0, 0) g1
  have x1 := cell_of_row _ _ 1 _ _ (0, 0) g1
  have x2 := cell_of_row _ _ 2 _ _ (0, 0) g1
  have y0 := cell_of_row _ _ 0 _ _ (0, 0) g2
  have y1 := cell_of_row _ _ 1 _ _ (0, 0) g2
  have y2 := cell_of_row _ _ 2 _ _ (0, 0) g2
  have hn1 : w.heap.size ≠ w.heap.size + 1 := by omega
  have hn2 : w.heap.size + 1 ≠ w.heap.size := by omega
  have HBX := Lib.hid hB0.drew
  have HSX := Lib.hid (show w.heap.size ≤ W.drew.heap.size by have : W.drew.heap.size = W.heap.size := rfl; omega)
  have HL3 := Lib.hid hsz
  have HN3 := Lib.hid (show w.heap.size ≤ w.heap.size + 1 by omega)
  clear g1 g2 hB0 hsz
  generalize w.heap.size + 1 = j2 at *
  generalize hj1 : w.heap.size = j1 at *
  have HJ1 := Lib.hid hj1
  clear hj1
  go_cut [] (fun wx => Hid (TwoSt2 w j1 j2 z1 z2 d1 d2 wx))
  case rest =>
    clear q1 q2 x0 x1 x2 y0 y1 y2 HBX HSX HL3 C1 C2
    have hj := HJ1.out
    obtain ⟨a1, c1, a2, c2, a3, c3, a4, c4, q1, q2, p1, p2, p3, p4, hb⟩ := hcut.out
    clear hcut
    have CB1 := Lib.hid (fun wy (hb : TwoAt2 wc j1 j2 (decide (z1 < 0)) (decide (z2 < 0)) (.slice a1 (Dg.db B64 z1.natAbs).length c1) (.slice a2 (Dg.db B64 d1).length c2) (.slice a3 (Dg.db B64 z2.natAbs).length c3) (.slice a4 (Dg.db B64 d2).length c4) wy) => by_calls (decide (z1 < 0)) _ _ _ _ wy (p1.nv.below hb.bel) (p4.nv.below hb.bel) (by have := HL.out; omega) (by have := HL.out; omega))
    rw [Dg.dv_db (by decide), Dg.dv_db (by decide), by_val] at CB1
    have CB2 := Lib.hid (fun wy (hb : TwoAt2 wc j1 j2 (decide (z1 < 0)) (decide (z2 < 0)) (.slice a1 (Dg.db B64 z1.natAbs).length c1) (.slice a2 (Dg.db B64 d1).length c2) (.slice a3 (Dg.db B64 z2.natAbs).length c3) (.slice a4 (Dg.db B64 d2).length c4) wy) => by_calls (decide (z2 < 0)) _ _ _ _ wy (p3.nv.below hb.bel) (p2.nv.below hb.bel) (by have := HL.out; omega) (by have := HL.out; omega))
    rw [Dg.dv_db (by decide), Dg.dv_db (by decide), by_val] at CB2
    have HLA := Lib.hid (show (Dg.db B64 (z1 * (d2 : Int)).natAbs).length ≤ 68719476738 from Nat.le_trans (by_len HL.out.1 HL.out.2.2.2) (by omega))
    have HLB := Lib.hid (show (Dg.db B64 (z2 * (d1 : Int)).natAbs).length ≤ 68719476738 from Nat.le_trans (by_len HL.out.2.2.1 HL.out.2.1) (by omega))
    generalize hA : z1 * (d2 : Int) = A at *
    generalize hB : z2 * (d1 : Int) = B at *
    have HAB := Lib.hid (And.intro hA hB)
    clear hA hB
    have HST := Lib.hid (show TwoAt2 wc j1 j2 (decide (z1 < 0)) (decide (z2 < 0)) (.slice a1 (Dg.db B64 z1.natAbs).length c1) (.slice a2 (Dg.db B64 d1).length c2) (.slice a3 (Dg.db B64 z2.natAbs).length c3) (.slice a4 (Dg.db B64 d2).length c4) wc from ⟨Below.refl _ _, q1, q2⟩)
    have nw1 : j1 ≠ wc.heap.size := Nat.ne_of_lt (heap_lt q1)
    have nw2 : j2 ≠ wc.heap.size := Nat.ne_of_lt (heap_lt q2)
    have nw3 := Ne.symm nw1
    have nw4 := Ne.symm nw2
    have HSX := Lib.hid (Nat.le_refl wc.heap.size)
    have HBW := Lib.hid hb
    have x0 := cell_of_row _ _ 0 _ _ (0, 0) HST.out.r1
    have x1 := cell_of_row _ _ 1 _ _ (0, 0) HST.out.r1
    have x2 := cell_of_row _ _ 2 _ _ (0, 0) HST.out.r1
    have y0 := cell_of_row _ _ 0 _ _ (0, 0) HST.out.r2
    have y1 := cell_of_row _ _ 1 _ _ (0, 0) HST.out.r2
    have y2 := cell_of_row _ _ 2 _ _ (0, 0) HST.out.r2
    clear q1 q2 p1 p2 p3 p4 hb hj
    generalize (Dg.db B64 z1.natAbs).length = n1 at *
    generalize (Dg.db B64 d1).length = n2 at *
    generalize (Dg.db B64 z2.natAbs).length = n3 at *
    generalize (Dg.db B64 d2).length = n4 at *
    generalize hs1 : decide (z1 < 0) = s1 at *
    generalize hs2 : decide (z2 < 0) = s2 at *
    have HS12 := Lib.hid (And.intro hs1 hs2)
    clear hs1 hs2
    go_upto_region 2 with fail
    go_region_held3 (fun w' => w'.cell? ⟨j1, 0, none⟩ = some (.bool s1) ∧ w'.cell? ⟨j1, 1, none⟩ = some (.slice a1 n1 c1) ∧ w'.cell? ⟨j1, 2, none⟩ = some (.slice a2 n2 c2) ∧ w'.cell? ⟨j2, 0, none⟩ = some (.bool s2) ∧ w'.cell? ⟨j2, 1, none⟩ = some (.slice a3 n3 c3) ∧ w'.cell? ⟨j2, 2, none⟩ = some (.slice a4 n4 c4)) (go_keep)
      (first
        | (go_at_call_of 35 (Value.agg #[.bool s1, .slice a1 n1 c1])
           refine Calls.mono (CB1.out _ (by first | exact HST.out | exact HST.out.drew | exact HST.out.alloc _ | exact (HST.out.alloc _).drew)) ?_
           rintro e w1 ⟨v, rfl, hno, hb⟩
           obtain ⟨a7, c7, rfl⟩ := hno.slice
           have HNA := Lib.hid hno.nv
           clear hno
           have HST := Lib.hid (TwoAt2.call (by first | exact HST.out | exact HST.out.drew | exact HST.out.alloc _ | exact (HST.out.alloc _).drew) hb)
           have HSX := Lib.hid (show wc.heap.size ≤ w1.heap.size from HST.out.bel.size)
           have x0 := cell_of_row _ _ 0 _ _ (0, 0) HST.out.r1
           have x1 := cell_of_row _ _ 1 _ _ (0, 0) HST.out.r1
           have x2 := cell_of_row _ _ 2 _ _ (0, 0) HST.out.r1
           have y0 := cell_of_row _ _ 0 _ _ (0, 0) HST.out.r2
           have y1 := cell_of_row _ _ 1 _ _ (0, 0) HST.out.r2
           have y2 := cell_of_row _ _ 2 _ _ (0, 0) HST.out.r2
           clear hb)
        | (go_at_call_of 35 (Value.agg #[.bool s2, .slice a3 n3 c3])
           refine Calls.mono (CB2.out _ (by first | exact HST.out | exact HST.out.drew | exact HST.out.alloc _ | exact (HST.out.alloc _).drew)) ?_
           rintro e w2 ⟨v, rfl, hno, hb⟩
           obtain ⟨a8, c8, rfl⟩ := hno.slice
           have HNB := Lib.hid hno.nv
           clear hno
           have HNA := Lib.hid (Nv.below (by first | exact HNA.out | exact HNA.out.alloc _) hb)
           have HST := Lib.hid (TwoAt2.call (by first | exact HST.out | exact HST.out.drew | exact HST.out.alloc _ | exact (HST.out.alloc _).drew) hb)
           have HSX := Lib.hid (show wc.heap.size ≤ w2.heap.size from HST.out.bel.size)
           have x0 := cell_of_row _ _ 0 _ _ (0, 0) HST.out.r1
           have x1 := cell_of_row _ _ 1 _ _ (0, 0) HST.out.r1
           have x2 := cell_of_row _ _ 2 _ _ (0, 0) HST.out.r1
           have y0 := cell_of_row _ _ 0 _ _ (0, 0) HST.out.r2
           have y1 := cell_of_row _ _ 1 _ _ (0, 0) HST.out.r2
           have y2 := cell_of_row _ _ 2 _ _ (0, 0) HST.out.r2
           clear hb)
        | (go_at_call 43
           refine Calls.mono (wcmp_calls _ _ _ _ _ _ _ (by first | exact HNA.out | exact HNA.out.drew | exact HNA.out.alloc _ | exact (Nv.alloc HNA.out _).drew) (by first | exact HNB.out | exact HNB.out.drew | exact HNB.out.alloc _ | exact (Nv.alloc HNB.out _).drew) (Nat.le_trans HLA.out (by decide)) (Nat.le_trans HLB.out (by decide))) ?_
           rintro e w3 ⟨he, hb⟩
           rw [Dg.dv_db (by decide), Dg.dv_db (by decide), sgn_of, sgn_of] at he
           subst he
           have HST := Lib.hid (TwoAt2.call (by first | exact HST.out | exact HST.out.drew | exact HST.out.alloc _ | exact (HST.out.alloc _).drew) hb)
           have HSX := Lib.hid (show wc.heap.size ≤ w3.heap.size from HST.out.bel.size)
           have x0 := cell_of_row _ _ 0 _ _ (0, 0) HST.out.r1
           have x1 := cell_of_row _ _ 1 _ _ (0, 0) HST.out.r1
           have x2 := cell_of_row _ _ 2 _ _ (0, 0) HST.out.r1
           have y0 := cell_of_row _ _ 0 _ _ (0, 0) HST.out.r2
           have y1 := cell_of_row _ _ 1 _ _ (0, 0) HST.out.r2
           have y2 := cell_of_row _ _ 2 _ _ (0, 0) HST.out.r2
           clear hb))
    go_wp2_with fail
    go_ret
    obtain ⟨hA, hB⟩ := HAB.out
    subst hA hB
    exact ⟨rfl, HBW.out.trans (HST.out.bel.mono HBW.out.size)⟩
  go_region_with (first
    | (go_at_call_of 31 (Value.agg #[.bool b1, .slice a1 xs.length c1, .slice a2 ys.length c2])
       refine Calls.mono (C1.out _ HBX.out) ?_
       rintro e wP ⟨v, rfl, ⟨vn, vd, rfl, hn, hdn⟩, hbP⟩
       obtain ⟨a5P, c5P, rfl⟩ := hn.slice
       obtain ⟨a6P, c6P, rfl⟩ := hdn.slice
       have HNP := Lib.hid hn
       have HDP := Lib.hid hdn
       have HBX := Lib.hid (HBX.out.trans (hbP.mono HSX.out))
       have HSX := Lib.hid (Nat.le_trans HSX.out hbP.size)
       have q1 := block_of hbP q1
       have q2 := block_of hbP q2
       have HBLP := Lib.hid hbP
       have x0 := cell_of_row _ _ 0 _ _ (0, 0) q1
       have x1 := cell_of_row _ _ 1 _ _ (0, 0) q1
       have x2 := cell_of_row _ _ 2 _ _ (0, 0) q1
       have y0 := cell_of_row _ _ 0 _ _ (0, 0) q2
       have y1 := cell_of_row _ _ 1 _ _ (0, 0) q2
       have y2 := cell_of_row _ _ 2 _ _ (0, 0) q2
       have f0 := frozen_of_row _ _ 0 _ _ q1
       have f1 := frozen_of_row _ _ 1 _ _ q1
       have f2 := frozen_of_row _ _ 2 _ _ q1
       have k0 := frozen_of_row _ _ 0 _ _ q2
       have k1 := frozen_of_row _ _ 1 _ _ q2
       have k2 := frozen_of_row _ _ 2 _ _ q2
       clear hn hdn hbP)
    | (go_at_call_of 31 (Value.agg #[.bool b2, .slice a3 us.length c3, .slice a4 vs.length c4])
       refine Calls.mono (C2.out _ HBX.out) ?_
       rintro e wQ ⟨v, rfl, ⟨vn, vd, rfl, hn, hdn⟩, hbQ⟩
       obtain ⟨a5Q, c5Q, rfl⟩ := hn.slice
       obtain ⟨a6Q, c6Q, rfl⟩ := hdn.slice
       have HNQ := Lib.hid hn
       have HDQ := Lib.hid hdn
       have HBX := Lib.hid (HBX.out.trans (hbQ.mono HSX.out))
       have HSX := Lib.hid (Nat.le_trans HSX.out hbQ.size)
       have q1 := block_of hbQ q1
       have q2 := block_of hbQ q2
       have HBLQ := Lib.hid hbQ
       have x0 := cell_of_row _ _ 0 _ _ (0, 0) q1
       have x1 := cell_of_row _ _ 1 _ _ (0, 0) q1
       have x2 := cell_of_row _ _ 2 _ _ (0, 0) q1
       have y0 := cell_of_row _ _ 0 _ _ (0, 0) q2
       have y1 := cell_of_row _ _ 1 _ _ (0, 0) q2
       have y2 := cell_of_row _ _ 2 _ _ (0, 0) q2
       have f0 := frozen_of_row _ _ 0 _ _ q1
       have f1 := frozen_of_row _ _ 1 _ _ q1
       have f2 := frozen_of_row _ _ 2 _ _ q1
       have k0 := frozen_of_row _ _ 0 _ _ q2
       have k1 := frozen_of_row _ _ 1 _ _ q2
       have k2 := frozen_of_row _ _ 2 _ _ q2
       clear hn hdn hbQ))
  all_goals go_wp2_with fail
  all_goals go_meet
  all_goals
    have hj := HJ1.out
    subst hj
    refine Lib.hid (two_fin2 q1 q2 hn1 HBX.out (Nat.le_refl _) HN3.out HN3.out (BP := W.drew.heap.size) (BQ := wP.drew.heap.size) ⟨_, _, rfl, HNP.out.below HBLQ.out, HDP.out.below HBLQ.out⟩ ⟨_, _, rfl, HNQ.out, HDQ.out⟩ HL3.out ?_)
    exact Nat.lt_of_lt_of_le HL3.out HBLP.out.size

end Go.Proofs.YthlpfhenaakljaaGreatDoor

namespace Go.Proofs.YthlpfhenaakljaaGreatDoor
open Go.RowKit

/-- In lowest terms. -/
def Red (z : Int) (d : Nat) : Prop := d ≠ 0 ∧ Nat.gcd z.natAbs d = 1
theorem red_red (b : Bool) (n d : Nat) : Red (redZ b n d) (redD n d) := by
  refine ⟨redD_pos n d, ?_⟩
  unfold redZ redD
  split
  · simp
  · rename_i h
    rw [sgn_abs]
    exact Nat.coprime_div_gcd_div_gcd (Nat.gcd_pos_of_pos_right _ (by omega))
theorem Red.nrm {z : Int} {d : Nat} (h : Red z d) : nrm z d = z := by
  have h1 := (rr_nrm h.1 (z := z)).1
  rw [h.2, Nat.div_one, sgn_of] at h1
  exact h1.symm
theorem Red.nrd {z : Int} {d : Nat} (h : Red z d) : nrd z d = d := by
  have h1 := (rr_nrm h.1 (z := z)).2
  rw [h.2, Nat.div_one] at h1
  exact h1.symm
theorem Red.neg {z : Int} {d : Nat} (h : Red z d) : Red (-z) d := ⟨h.1, by rw [Int.natAbs_neg]; exact h.2⟩
theorem red_nrm (z : Int) (d : Nat) : Red (Go.Proofs.YthlpfhenaakljaaGreatDoor.nrm z d) (Go.Proofs.YthlpfhenaakljaaGreatDoor.nrd z d) := red_red _ _ _
theorem Red.z {z : Int} {d : Nat} (h : Red z d) : z = redZ (decide (z < 0)) (Dg.dv B64 (Dg.db B64 z.natAbs)) (Dg.dv B64 (Dg.db B64 d)) := by
  rw [Dg.dv_db (by decide), Dg.dv_db (by decide)]; exact h.nrm.symm
theorem Red.d {z : Int} {d : Nat} (h : Red z d) : d = redD (Dg.dv B64 (Dg.db B64 z.natAbs)) (Dg.dv B64 (Dg.db B64 d)) := by
  rw [Dg.dv_db (by decide), Dg.dv_db (by decide)]; exact h.nrd.symm

set_option maxHeartbeats 1600000 in
theorem rsame_calls (b1 b2 : Bool) (m1 m2 m3 m4 : Value) (xs ys us vs : List Nat) (z1 z2 : Int) (d1 d2 : Nat) (w : World) (h1 : Nv w m1 xs) (h2 : Nv w m2 ys) (h3 : Nv w m3 us) (h4 : Nv w m4 vs)
    (l1 : xs.length ≤ 34359738368) (l2 : ys.length ≤ 34359738368) (l3 : us.length ≤ 34359738368) (l4 : vs.length ≤ 34359738368)
    (hz1 : z1 = redZ b1 (Dg.dv B64 xs) (Dg.dv B64 ys)) (hd1 : d1 = redD (Dg.dv B64 xs) (Dg.dv B64 ys)) (hz2 : z2 = redZ b2 (Dg.dv B64 us) (Dg.dv B64 vs)) (hd2 : d2 = redD (Dg.dv B64 us) (Dg.dv B64 vs)) :
    Calls Tryz.prog 22 #[.agg #[.bool b1, m1, m2], .agg #[.bool b2, m3, m4]] w (fun e w' => e = .returned (.bool (cmpI (z1 * (d2 : Int)) (z2 * (d1 : Int)) == 0)) ∧ Below w.heap.size w w') := by
  obtain ⟨_, a1, c1, rfl, _, _⟩ := id h1
  obtain ⟨_, a2, c2, rfl, _, _⟩ := id h2
  obtain ⟨_, a3, c3, rfl, _, _⟩ := id h3
  obtain ⟨_, a4, c4, rfl, _, _⟩ := id h4
  have CC := Lib.hid (fun wx (hb : Below w.heap.size w wx) => rcmp_calls b1 b2 _ _ _ _ xs ys us vs z1 z2 d1 d2 wx (h1.below hb) (h2.below hb) (h3.below hb) (h4.below hb) l1 l2 l3 l4 hz1 hd1 hz2 hd2)
  clear h1 h2 h3 h4 hz1 hd1 hz2 hd2
  generalize cmpI (z1 * (d2 : Int)) (z2 * (d1 : Int)) = C at *
  go_enter Tryz.func22, Tryz.ntmps22
  go_upto_region 1 with fail
  obtain ⟨g1, g2, hB0, hsz⟩ := two_blocks w (.cells #[.bool b1, .slice a1 xs.length c1, .slice a2 ys.length c2] 27) (.cells #[.bool b2, .slice a3 us.length c3, .slice a4 vs.length c4] 27)
  generalize (w.alloc (.cells #[.bool b1, .slice a1 xs.length c1, .slice a2 ys.length c2] 27)).alloc (.cells #[.bool b2, .slice a3 us.length c3, .slice a4 vs.length c4] 27) = W at *
  have HM := Lib.hid (CC.out _ hB0)
  have HB0 := Lib.hid hB0
  have HS0 := Lib.hid (show w.heap.size ≤ W.heap.size by omega)
  have x0 := cell_of_row _ _ 0 _ _ (0, 0) g1
  have x1 := cell_of_row _ _ 1 _ _ (0, 0) g1
  have x2 := cell_of_row _ _ 2 _ _ (0, 0) g1
  have y0 := cell_of_row _ _ 0 _ _ (0, 0) g2
  have y1 := cell_of_row _ _ 1 _ _ (0, 0) g2
  have y2 := cell_of_row _ _ 2 _ _ (0, 0) g2
  clear g1 g2 hB0 hsz CC
  go_wp2_with fail
  refine HM.out.mono ?_
  rintro e w2 ⟨rfl, hb⟩
  have HB2 := Lib.hid (HB0.out.trans (hb.mono HS0.out))
  clear hb
  go_wp2_with fail
  go_ret
  exact ⟨rfl, HB2.out⟩

set_option maxHeartbeats 3200000 in
theorem rsub_calls (b1 b2 : Bool) (m1 m2 m3 m4 : Value) (xs ys us vs : List Nat) (z1 z2 : Int) (d1 d2 : Nat) (w : World) (h1 : Nv w m1 xs) (h2 : Nv w m2 ys) (h3 : Nv w m3 us) (h4 : Nv w m4 vs)
    (l1 : xs.length ≤ 34359738367) (l2 : ys.length ≤ 34359738367) (l3 : us.length ≤ 34359738367) (l4 : vs.length ≤ 34359738367)
    (hz1 : z1 = redZ b1 (Dg.dv B64 xs) (Dg.dv B64 ys)) (hd1 : d1 = redD (Dg.dv B64 xs) (Dg.dv B64 ys)) (hz2 : z2 = redZ b2 (Dg.dv B64 us) (Dg.dv B64 vs)) (hd2 : d2 = redD (Dg.dv B64 us) (Dg.dv B64 vs)) :
    Calls Tryz.prog 9 #[.agg #[.bool b1, m1, m2], .agg #[.bool b2, m3, m4]] w (RetR (nrm (z1 * (d2 : Int) + -z2 * (d1 : Int)) (d1 * d2)) (nrd (z1 * (d2 : Int) + -z2 * (d1 : Int)) (d1 * d2)) w) := by
  obtain ⟨_, a1, c1, rfl, _, _⟩ := id h1
  obtain ⟨_, a2, c2, rfl, _, _⟩ := id h2
  obtain ⟨_, a3, c3, rfl, _, _⟩ := id h3
  obtain ⟨_, a4, c4, rfl, _, _⟩ := id h4
  have hR : Red z2 d2 := by rw [hz2, hd2]; exact red_red _ _ _
  have lz : (Dg.db B64 (-z2).natAbs).length ≤ 34359738368 := by rw [Int.natAbs_neg, hz2]; exact Nat.le_trans (redZ_len b2 h3.1 _) (by omega)
  have ld : (Dg.db B64 d2).length ≤ 34359738368 := by rw [hd2]; exact Nat.le_trans (redD_len _ h4.1) (by omega)
  have CN := Lib.hid (fun wx (hb : Below w.heap.size w wx) => rneg_calls b2 _ _ us vs wx (h3.below hb) (h4.below hb) (by omega) (by omega) (Nat.le_trans (redZ_len b2 h3.1 _) (by omega)))
  have CA := Lib.hid (fun wx v v' (hb : Below w.heap.size w wx) (hn : Nv wx v (Dg.db B64 (-z2).natAbs)) (hd : Nv wx v' (Dg.db B64 d2)) =>
    radd_calls b1 (decide (-z2 < 0)) _ _ v v' xs ys _ _ z1 (-z2) d1 d2 wx (h1.below hb) (h2.below hb) hn hd (by omega) (by omega) lz ld hz1 hd1 hR.neg.z (by have := hR.neg.d; exact this))
  rw [← hz2, ← hd2] at CN
  clear h1 h2 h3 h4 hz1 hd1 hz2 hd2 hR lz ld
  generalize nrm (z1 * (d2 : Int) + -z2 * (d1 : Int)) (d1 * d2) = Z at *
  generalize nrd (z1 * (d2 : Int) + -z2 * (d1 : Int)) (d1 * d2) = D at *
  generalize hzn : -z2 = zn at *
  clear hzn
  go_enter Tryz.func9, Tryz.ntmps9
  go_upto_region 1 with fail
  obtain ⟨g1, g2, g3, hB0, hsz⟩ := three_blocks w (.cells #[.bool b1, .slice a1 xs.length c1, .slice a2 ys.length c2] 27) (.cells #[.bool b2, .slice a3 us.length c3, .slice a4 vs.length c4] 27) (.cells #[.bool false, .slice none 0 0, .slice none 0 0] 27)
  generalize ((w.alloc (.cells #[.bool b1, .slice a1 xs.length c1, .slice a2 ys.length c2] 27)).alloc (.cells #[.bool b2, .slice a3 us.length c3, .slice a4 vs.length c4] 27)).alloc (.cells #[.bool false, .slice none 0 0, .slice none 0 0] 27) = W at *
  have HST := Lib.hid (show TwoAt W w.heap.size (w.heap.size + 1) (w.heap.size + 1 + 1) b1 b2 (.slice a1 xs.length c1) (.slice a2 ys.length c2) (.slice a3 us.length c3) (.slice a4 vs.length c4) W.drew from ⟨(Below.refl _ _).drew, g1, g2, g3⟩)
  have HBW := Lib.hid hB0
  have HGE := Lib.hid (show w.heap.size ≤ w.heap.size + 1 + 1 by omega)
  have HJ3 := Lib.hid (heap_lt g3)
  have n13 : w.heap.size ≠ w.heap.size + 1 + 1 := by omega
  have n23 : w.heap.size + 1 ≠ w.heap.size + 1 + 1 := by omega
  have n12 : w.heap.size ≠ w.heap.size + 1 := by omega
  have n31 := Ne.symm n13
  have n32 := Ne.symm n23
  have n21 := Ne.symm n12
  have x0 := cell_of_row _ _ 0 _ _ (0, 0) HST.out.r1
  have x1 := cell_of_row _ _ 1 _ _ (0, 0) HST.out.r1
  have x2 := cell_of_row _ _ 2 _ _ (0, 0) HST.out.r1
  have y0 := cell_of_row _ _ 0 _ _ (0, 0) HST.out.r2
  have y1 := cell_of_row _ _ 1 _ _ (0, 0) HST.out.r2
  have y2 := cell_of_row _ _ 2 _ _ (0, 0) HST.out.r2
  clear g1 g2 g3 hB0 hsz
  have CN2 := Lib.hid (fun wx (hb : Below W.heap.size W wx) => CN.out wx (HBW.out.trans (hb.mono HBW.out.size)))
  have CA2 := Lib.hid (fun wx v v' (hb : Below W.heap.size W wx) => CA.out wx v v' (HBW.out.trans (hb.mono HBW.out.size)))
  clear CN CA
  generalize w.heap.size + 1 + 1 = j3 at *
  generalize w.heap.size + 1 = j2 at *
  generalize hj1 : w.heap.size = j1 at *
  have HJ := Lib.hid hj1
  clear hj1
  go_region_held3 (fun w' => w'.cell? ⟨j1, 0, none⟩ = some (.bool b1) ∧ w'.cell? ⟨j1, 1, none⟩ = some (.slice a1 xs.length c1) ∧ w'.cell? ⟨j1, 2, none⟩ = some (.slice a2 ys.length c2) ∧ w'.cell? ⟨j2, 0, none⟩ = some (.bool b2) ∧ w'.cell? ⟨j2, 1, none⟩ = some (.slice a3 us.length c3) ∧ w'.cell? ⟨j2, 2, none⟩ = some (.slice a4 vs.length c4)) (go_keep)
    (first
      | (go_at_call 11
         refine Calls.mono (CN2.out _ HST.out.bel) ?_
         rintro e w1 ⟨v, rfl, ⟨vn, vd, rfl, hn, hdn⟩, hb⟩
         obtain ⟨a7, c7, rfl⟩ := hn.slice
         obtain ⟨a8, c8, rfl⟩ := hdn.slice
         have HN := Lib.hid hn.nv
         have HD := Lib.hid hdn.nv
         have HST := Lib.hid (TwoAt.call HST.out hb)
         have x0 := cell_of_row _ _ 0 _ _ (0, 0) HST.out.r1
         have x1 := cell_of_row _ _ 1 _ _ (0, 0) HST.out.r1
         have x2 := cell_of_row _ _ 2 _ _ (0, 0) HST.out.r1
         have y0 := cell_of_row _ _ 0 _ _ (0, 0) HST.out.r2
         have y1 := cell_of_row _ _ 1 _ _ (0, 0) HST.out.r2
         have y2 := cell_of_row _ _ 2 _ _ (0, 0) HST.out.r2
         clear hn hdn hb)
      | (go_at_call 8
         refine Calls.mono (CA2.out _ _ _ HST.out.bel HN.out HD.out) ?_
         rintro e w2 ⟨v, rfl, ⟨vn, vd, rfl, hn, hdn⟩, hb⟩
         obtain ⟨a7, c7, rfl⟩ := hn.slice
         obtain ⟨a8, c8, rfl⟩ := hdn.slice
         have HSZ := Lib.hid HST.out.bel.size
         have HN := Lib.hid hn
         have HD := Lib.hid hdn
         have HST := Lib.hid (TwoAt.call HST.out hb)
         have x0 := cell_of_row _ _ 0 _ _ (0, 0) HST.out.r1
         have x1 := cell_of_row _ _ 1 _ _ (0, 0) HST.out.r1
         have x2 := cell_of_row _ _ 2 _ _ (0, 0) HST.out.r1
         have y0 := cell_of_row _ _ 0 _ _ (0, 0) HST.out.r2
         have y1 := cell_of_row _ _ 1 _ _ (0, 0) HST.out.r2
         have y2 := cell_of_row _ _ 2 _ _ (0, 0) HST.out.r2
         have t0 := frozen_of_row _ _ 0 _ _ HST.out.r3
         have t1 := frozen_of_row _ _ 1 _ _ HST.out.r3
         have t2 := frozen_of_row _ _ 2 _ _ HST.out.r3
         have v0 := cell_of_row _ _ 0 _ _ (0, 0) HST.out.r3
         have v1 := cell_of_row _ _ 1 _ _ (0, 0) HST.out.r3
         have v2 := cell_of_row _ _ 2 _ _ (0, 0) HST.out.r3
         clear hn hdn hb))
  go_wp2_with fail
  have HBE := Lib.hid (show Below w.heap.size w w2 from by rw [HJ.out]; exact HBW.out.trans (HST.out.bel.mono (by have := HBW.out.size; rw [← HJ.out]; exact this)))
  have hge : w.heap.size ≤ j3 := by rw [HJ.out]; exact HGE.out
  refine ret_row rfl _ _ j3 27 _ (0, 0) rfl (stored3 HST.out.r3 _ _ _) und_Rat size_Rat ?_
  exact ⟨_, rfl, ⟨_, _, rfl, (filled3 HBE.out hge _ _ _).2 _ _ _ (Nat.lt_of_lt_of_le HJ3.out HSZ.out) HN.out, (filled3 HBE.out hge _ _ _).2 _ _ _ (Nat.lt_of_lt_of_le HJ3.out HSZ.out) HD.out⟩, (filled3 HBE.out hge _ _ _).1⟩

end Go.Proofs.YthlpfhenaakljaaGreatDoor

namespace Go.Proofs.YthlpfhenaakljaaGreatDoor
open Go.RowKit

/-- A fraction as it is told: its sign, its numerator's limbs, its denominator's. -/
abbrev Tq := Bool × List Nat × List Nat
def zQ (q : Tq) : Int := redZ q.1 (Dg.dv B64 q.2.1) (Dg.dv B64 q.2.2)
def dQ (q : Tq) : Nat := redD (Dg.dv B64 q.2.1) (Dg.dv B64 q.2.2)

/-- A value that reads as a fraction. -/
def Qv (w : World) (v : Value) (q : Tq) : Prop := ∃ m1 m2, v = .agg #[.bool q.1, m1, m2] ∧ Nv w m1 q.2.1 ∧ Nv w m2 q.2.2
theorem Qv.below {w w' : World} {v : Value} {q : Tq} (h : Qv w v q) (hb : Below w.heap.size w w') : Qv w' v q := by
  obtain ⟨m1, m2, e, h1, h2⟩ := h
  exact ⟨m1, m2, e, h1.below hb, h2.below hb⟩

/-- Three cells that read as a fraction. -/
def Qc (w : World) (b o : Nat) (q : Tq) : Prop := ∃ m1 m2, w.cell? ⟨b, o, none⟩ = some (.bool q.1) ∧ w.cell? ⟨b, o + 1, none⟩ = some m1 ∧ w.cell? ⟨b, o + 2, none⟩ = some m2 ∧ Nv w m1 q.2.1 ∧ Nv w m2 q.2.2
theorem Qc.below {w w' : World} {b o : Nat} {q : Tq} (h : Qc w b o q) (hlt : b < w.heap.size) (hb : Below w.heap.size w w') : Qc w' b o q := by
  obtain ⟨m1, m2, c0, c1, c2, h1, h2⟩ := h
  exact ⟨m1, m2, (hb.cell (p := ⟨b, o, none⟩) hlt).trans c0, (hb.cell (p := ⟨b, o + 1, none⟩) hlt).trans c1, (hb.cell (p := ⟨b, o + 2, none⟩) hlt).trans c2, h1.below hb, h2.below hb⟩

/-- A slice that reads as fractions. -/
def Lv (w : World) (v : Value) (qs : List Tq) : Prop :=
  ∃ a cap, v = .slice a qs.length cap ∧ qs.length ≤ cap ∧ (qs = [] ∨ ∃ b off, a = some ⟨b, off, none⟩ ∧ b < w.heap.size ∧ ∀ i q, qs[i]? = some q → Qc w b (off + i * 3) q)
theorem Lv.below {w w' : World} {v : Value} {qs : List Tq} (h : Lv w v qs) (hb : Below w.heap.size w w') : Lv w' v qs := by
  obtain ⟨a, cap, e, hc, hr⟩ := h
  refine ⟨a, cap, e, hc, ?_⟩
  rcases hr with rfl | ⟨b, off, rfl, hlt, hq⟩
  · exact .inl rfl
  · exact .inr ⟨b, off, rfl, Nat.lt_of_lt_of_le hlt hb.size, fun i q hi => (hq i q hi).below hlt hb⟩

/-- A sum of two fractions, of some. -/
def addQ (p : Int × Nat) (q : Tq) : Int × Nat := (nrm (p.1 * (dQ q : Int) + zQ q * (p.2 : Int)) (p.2 * dQ q), nrd (p.1 * (dQ q : Int) + zQ q * (p.2 : Int)) (p.2 * dQ q))
def sumQ (qs : List Tq) : Int × Nat := qs.foldl addQ (0, 1)

theorem sumQ_succ {qs : List Tq} {k : Nat} {q : Tq} (h : qs[k]? = some q) : sumQ (qs.take (k + 1)) = addQ (sumQ (qs.take k)) q := by
  unfold sumQ
  obtain ⟨hk, e⟩ := List.getElem?_eq_some_iff.1 h
  rw [List.take_succ_eq_append_getElem hk, List.foldl_append, e]
  rfl

theorem nrm_len {z : Int} {d p : Nat} (h : (Dg.db B64 z.natAbs).length ≤ p) : (Dg.db B64 (nrm z d).natAbs).length ≤ p := by
  refine Nat.le_trans (db_len_mono ?_) h
  unfold nrm redZ
  split
  · simp
  · rw [sgn_abs]; exact Nat.div_le_self _ _
theorem nrd_len {z : Int} {d p : Nat} (h : (Dg.db B64 d).length ≤ p) (hp : 1 ≤ p) : (Dg.db B64 (nrd z d)).length ≤ p := by
  unfold nrd redD
  split
  · exact Nat.le_trans (Dg.db_length (k := 1) (by decide) (by decide)) hp
  · exact Nat.le_trans (db_len_mono (Nat.div_le_self _ _)) h

/-- The limbs of a fraction that is told: at most six each. -/
def Six (q : Tq) : Prop := Ws q.2.1 ∧ Ws q.2.2 ∧ q.2.1.length ≤ 6 ∧ q.2.2.length ≤ 6
theorem Six.z {q : Tq} (h : Six q) : (Dg.db B64 (zQ q).natAbs).length ≤ 7 := Nat.le_trans (redZ_len _ h.1 _) (by have := h.2.2.1; omega)
theorem Six.d {q : Tq} (h : Six q) : (Dg.db B64 (dQ q)).length ≤ 7 := Nat.le_trans (redD_len _ h.2.1) (by have := h.2.2.2; omega)

def Bnd (p : Int × Nat) (k : Nat) : Prop := (Dg.db B64 p.1.natAbs).length ≤ 8 * (k + 1) ∧ (Dg.db B64 p.2).length ≤ 8 * (k + 1) ∧ Red p.1 p.2
theorem Bnd.add {p : Int × Nat} {k : Nat} {q : Tq} (h : Bnd p k) (hq : Six q) : Bnd (addQ p q) (k + 1) := by
  obtain ⟨h1, h2, h3⟩ := h
  refine ⟨nrm_len ?_, nrd_len (Nat.le_trans (db_mul_len h2 hq.d) (by omega)) (by omega), red_nrm _ _⟩
  exact Nat.le_trans (sum_len (p := 8 * (k + 1) + 7) (by_len h1 hq.d) (Nat.le_trans (by_len hq.z h2) (by omega))) (by omega)
theorem Bnd.start : Bnd (0, 1) 0 := ⟨by decide, by rw [db_one]; decide, by decide, by decide⟩
theorem sumQ_bnd {qs : List Tq} (hs : ∀ q ∈ qs, Six q) : ∀ k, k ≤ qs.length → Bnd (sumQ (qs.take k)) k
  | 0, _ => by rw [List.take_zero]; exact Bnd.start
  | k + 1, hk => by
    rw [sumQ_succ (List.getElem?_eq_getElem (by omega : k < qs.length))]
    exact (sumQ_bnd hs k (by omega)).add (hs _ (List.getElem_mem _))

/-- In the loop of a sum: what has been summed lies at block j3. -/
def SumSt (w : World) (j2 j3 : Nat) (p : Int × Nat) (wx : World) : Prop :=
  ∃ a1 c1 a2 c2, wx.heap[j3]? = some (.cells #[.bool (decide (p.1 < 0)), .slice a1 (Dg.db B64 p.1.natAbs).length c1, .slice a2 (Dg.db B64 p.2).length c2] 27 (0, 0)) ∧
    wx.heap[j2]? = some (.cells #[.bool false, .slice none 0 0, .slice none 0 0] 27 (0, 0)) ∧ Below w.heap.size w wx ∧
    No (j2 + 1) wx (.slice a1 (Dg.db B64 p.1.natAbs).length c1) (Dg.db B64 p.1.natAbs) ∧ No (j2 + 1) wx (.slice a2 (Dg.db B64 p.2).length c2) (Dg.db B64 p.2)

theorem sum_start {w w2 : World} {j2 B C : Nat} {z : Int} {d : Nat} {a1 a2 : Option Addr} {c1 c2 : Nat} (hb : Below w.heap.size w w2) (h2 : w2.heap[j2]? = some (.cells #[.bool false, .slice none 0 0, .slice none 0 0] 27 (0, 0)))
    (hn : No B w2 (.slice a1 (Dg.db B64 z.natAbs).length c1) (Dg.db B64 z.natAbs)) (hd : No C w2 (.slice a2 (Dg.db B64 d).length c2) (Dg.db B64 d)) (hB : j2 < B) (hC : j2 < C) :
    SumSt w j2 w2.heap.size (z, d) (w2.alloc (.cells #[.bool (decide (z < 0)), .slice a1 (Dg.db B64 z.natAbs).length c1, .slice a2 (Dg.db B64 d).length c2] 27)) := by
  have ha : Below w2.heap.size w2 (w2.alloc (.cells #[.bool (decide (z < 0)), .slice a1 (Dg.db B64 z.natAbs).length c1, .slice a2 (Dg.db B64 d).length c2] 27)) := (Below.refl _ _).alloc (Nat.le_refl _) _
  exact ⟨a1, c1, a2, c2, heap_alloc_new _ _, (heap_alloc_old _ _ (heap_lt h2)).trans h2, hb.trans (ha.mono hb.size), (hn.below ha).mono (by omega), (hd.below ha).mono (by omega)⟩

theorem sum_next {w w5 : World} {j2 j3 B : Nat} {z : Int} {d n5 n6 : Nat} {bb : Bool} {a1 a2 : Option Addr} {c1 c2 : Nat} {u v x : Value} (h3 : w5.heap[j3]? = some (.cells #[u, v, x] 27 (0, 0)))
    (h2 : w5.heap[j2]? = some (.cells #[.bool false, .slice none 0 0, .slice none 0 0] 27 (0, 0))) (hne : j2 ≠ j3) (hb : Below w.heap.size w w5) (hg : w.heap.size ≤ j3)
    (hr : RR z d B w5 (.agg #[.bool bb, .slice a1 n5 c1, .slice a2 n6 c2])) (hB : j2 < B) (hB3 : j3 < B) :
    SumSt w j2 j3 (z, d) (((w5.setCell ⟨j3, 0, none⟩ (.bool bb)).setCell ⟨j3, 1, none⟩ (.slice a1 n5 c1)).setCell ⟨j3, 2, none⟩ (.slice a2 n6 c2)) := by
  obtain ⟨rfl, rfl, rfl, p1, p2⟩ := hr.parts
  exact ⟨a1, c1, a2, c2, stored3 h3 _ _ _, other3 h2 hne _ _ _, (filled3 hb hg _ _ _).1, (kept3 p1 hB3 _ _ _).mono (by omega), (kept3 p2 hB3 _ _ _).mono (by omega)⟩

set_option maxHeartbeats 3200000 in
theorem rsum_calls (v : Value) (qs : List Tq) (w : World) (hv : Lv w v qs) (hs : ∀ q ∈ qs, Six q) (hl : qs.length ≤ 1048576) :
    Calls Tryz.prog 12 #[v] w (RetR (sumQ qs).1 (sumQ qs).2 w) := by
  obtain ⟨a, cap, rfl, hcap, hr⟩ := hv
  have HB := Lib.hid (sumQ_bnd hs)
  have HS := Lib.hid hs
  have HR := Lib.hid hr
  clear hr hs
  go_enter Tryz.func12, Tryz.ntmps12
  go_upto_region 1 with fail
  obtain ⟨g1, hB0, hsz⟩ := one_block w (.cells #[.bool false, .slice none 0 0, .slice none 0 0] 27)
  generalize w.alloc (.cells #[.bool false, .slice none 0 0, .slice none 0 0] 27) = W at *
  have HG := Lib.hid g1
  have HB0 := Lib.hid hB0
  have HS0 := Lib.hid hsz
  clear g1 hB0 hsz
  generalize hj : w.heap.size = j2 at *
  have HJ := Lib.hid hj
  clear hj
  go_wp2_with fail
  refine (rof_calls _ _ (by decide) (by decide)).mono ?_
  rintro e w2 ⟨v, rfl, ⟨vn, vd, rfl, hn, hdn⟩, hb⟩
  obtain ⟨a1, c1, rfl⟩ := hn.slice
  obtain ⟨a2, c2, rfl⟩ := hdn.slice
  have ga := heap_alloc_new w2 (.cells #[.bool false, .slice none 0 0, .slice none 0 0] 27)
  have e0 := frozen_of_row _ _ 0 _ _ ga
  have e1 := frozen_of_row _ _ 1 _ _ ga
  have e2 := frozen_of_row _ _ 2 _ _ ga
  have r0 := cell_of_row _ _ 0 _ _ (0, 0) ga
  have r1 := cell_of_row _ _ 1 _ _ (0, 0) ga
  have r2 := cell_of_row _ _ 2 _ _ (0, 0) ga
  have HG2 := Lib.hid (block_of hb HG.out)
  have HB2 := Lib.hid (HB0.out.trans (hb.mono (Nat.le_of_lt HS0.out)))
  have HN := Lib.hid hn
  have HD := Lib.hid hdn
  have HS2 := Lib.hid (Nat.lt_of_lt_of_le HS0.out hb.size)
  clear ga hn hdn hb
  go_upto_region 2 with fail
  clear e0 e1 e2 r0 r1 r2
  have HST := Lib.hid (show SumSt w j2 w2.heap.size (sumQ (qs.take 0)) (w2.alloc (.cells #[.bool (decide ((0 : Int) < 0)), .slice a1 (Dg.db B64 (Int.natAbs 0)).length c1, .slice a2 (Dg.db B64 1).length c2] 27)) from
    sum_start (by rw [HJ.out]; exact HB2.out) HG2.out HN.out HD.out HS0.out HS0.out)
  have HN3 := Lib.hid (show j2 ≠ w2.heap.size ∧ w2.heap.size ≠ j2 ∧ w.heap.size ≤ w2.heap.size ∧ w.heap.size ≤ j2 by have h1 := HS2.out; have h2 := HJ.out; omega)
  have hn23 := HN3.out.1
  have hn32 := HN3.out.2.1
  have HRR := Lib.hid (show qs = [] ∨ ∃ b off, a = some ⟨b, off, none⟩ ∧ b < w.heap.size ∧ ∀ (i : Nat) (q : Tq), qs[i]? = some q → Qc w b (off + i * 3) q by rw [HJ.out]; exact HR.out)
  change Code.wp _ _ _ _ (w2.alloc (.cells #[.bool (decide ((0 : Int) < 0)), .slice a1 (Dg.db B64 (Int.natAbs 0)).length c1, .slice a2 (Dg.db B64 1).length c2] 27))
  generalize w2.alloc (.cells #[.bool (decide ((0 : Int) < 0)), .slice a1 (Dg.db B64 (Int.natAbs 0)).length c1, .slice a2 (Dg.db B64 1).length c2] 27) = W3 at *
  generalize w2.heap.size = j3 at *
  clear HN HD HG2 HB2 HG HB0 HR HS2
  go_wp2_with fail
  go_loopw [9] (fun s wr => ∃ k : Nat, k ≤ qs.length ∧ s = .int .i64 k ∧ Hid (SumSt w j2 j3 (sumQ (qs.take k)) wr)) (fun s _ => qs.length - (intOf s).toNat)
  case atStart => exact ⟨0, Nat.zero_le _, rfl, HST⟩
  case round =>
    obtain ⟨k, hk, rfl, hrel⟩ := hrel
    clear HST
    obtain ⟨a1, c1, a2, c2, q3, q2, hb, hn, hd⟩ := hrel.out
    have x0 := cell_of_row _ _ 0 _ _ (0, 0) q3
    have x1 := cell_of_row _ _ 1 _ _ (0, 0) q3
    have x2 := cell_of_row _ _ 2 _ _ (0, 0) q3
    by_cases hkl : k < qs.length
    · have hq := List.getElem?_eq_getElem hkl
      have HSUM := Lib.hid (sumQ_succ hq)
      have HSX := Lib.hid (HS.out _ (List.getElem_mem hkl))
      rcases HRR.out with rfl | ⟨b, off, rfl, hlt, hc⟩
      · simp at hkl
      have hqc := (hc k _ hq).below hlt hb
      generalize qs[k] = q at *
      obtain ⟨m1, m2, t0, t1, t2, n1, n2⟩ := hqc
      have HBK := Lib.hid (HB.out k hk)
      generalize sumQ (qs.take k) = p at *
      obtain ⟨z, d⟩ := p
      have CA := Lib.hid (fun o => radd_calls (decide (z < 0)) q.1 _ _ m1 m2 _ _ q.2.1 q.2.2 z (zQ q) d (dQ q) (wr.alloc o) (hn.nv.alloc o) (hd.nv.alloc o) (n1.alloc o) (n2.alloc o)
        (Nat.le_trans HBK.out.1 (by omega)) (Nat.le_trans HBK.out.2.1 (by omega)) (Nat.le_trans HSX.out.2.2.1 (by decide)) (Nat.le_trans HSX.out.2.2.2 (by decide)) HBK.out.2.2.z HBK.out.2.2.d rfl rfl)
      obtain ⟨_, b1, e1, rfl, _, _⟩ := id n1
      obtain ⟨_, b2, e2, rfl, _, _⟩ := id n2
      have ga := heap_alloc_new wr (.cells #[.bool false, .slice none 0 0, .slice none 0 0] 27)
      have f0 := frozen_of_row _ _ 0 _ _ ga
      have f1 := frozen_of_row _ _ 1 _ _ ga
      have f2 := frozen_of_row _ _ 2 _ _ ga
      have r0 := cell_of_row _ _ 0 _ _ (0, 0) ga
      have r1 := cell_of_row _ _ 1 _ _ (0, 0) ga
      have r2 := cell_of_row _ _ 2 _ _ (0, 0) ga
      have hx0 := fun (o : Obj) => cell_of_row (wr.alloc o) _ 0 _ _ (0, 0) ((heap_alloc_old wr o (heap_lt q3)).trans q3)
      have hx1 := fun (o : Obj) => cell_of_row (wr.alloc o) _ 1 _ _ (0, 0) ((heap_alloc_old wr o (heap_lt q3)).trans q3)
      have hx2 := fun (o : Obj) => cell_of_row (wr.alloc o) _ 2 _ _ (0, 0) ((heap_alloc_old wr o (heap_lt q3)).trans q3)
      have HQ := Lib.hid (And.intro q3 (And.intro q2 hb))
      clear ga n1 n2 hn hd hrel hc q3 q2 hb
      generalize hzz : decide (z < 0) = zb at *
      clear hzz
      generalize hA : addQ (z, d) q = A at *
      have HA := Lib.hid hA
      clear hA
      obtain ⟨Az, Ad⟩ := A
      go_wp2_with fail
      refine (CA.out _).mono ?_
      rintro e w5 ⟨v, rfl, hr, hb⟩
      have hr : RR (addQ (z, d) q).1 (addQ (z, d) q).2 _ _ _ := hr
      rw [HA.out] at hr
      have hr2 := hr
      obtain ⟨vn, vd, rfl, hn, hdn⟩ := hr
      obtain ⟨a5, c5, rfl⟩ := hn.slice
      obtain ⟨a6, c6, rfl⟩ := hdn.slice
      have HRR2 := Lib.hid hr2
      have q3 := block_of hb ((heap_alloc_old wr (.cells #[.bool q.1, .slice b1 q.2.1.length e1, .slice b2 q.2.2.length e2] 27) (heap_lt HQ.out.1)).trans HQ.out.1)
      have q2 := block_of hb ((heap_alloc_old wr (.cells #[.bool q.1, .slice b1 q.2.1.length e1, .slice b2 q.2.2.length e2] 27) (heap_lt HQ.out.2.1)).trans HQ.out.2.1)
      have HB5 := Lib.hid ((HQ.out.2.2.alloc HQ.out.2.2.size (.cells #[.bool q.1, .slice b1 q.2.1.length e1, .slice b2 q.2.2.length e2] 27)).trans (hb.mono (by have := HQ.out.2.2.size; rw [World.size_alloc]; omega)))
      have HLT := Lib.hid (show j2 < (wr.alloc (.cells #[.bool q.1, .slice b1 q.2.1.length e1, .slice b2 q.2.2.length e2] 27)).heap.size ∧ j3 < (wr.alloc (.cells #[.bool q.1, .slice b1 q.2.1.length e1, .slice b2 q.2.2.length e2] 27)).heap.size by
        have h1 := heap_lt HQ.out.1
        have h2 := heap_lt HQ.out.2.1
        rw [World.size_alloc]; omega)
      have HQ5 := Lib.hid (And.intro q3 q2)
      clear f0 f1 f2 r0 r1 r2 hx0 hx1 hx2 x0 x1 x2 t0 t1 t2 hr2 hn hdn hb
      have y0 := cell_of_row _ _ 0 _ _ (0, 0) q3
      have y1 := cell_of_row _ _ 1 _ _ (0, 0) q3
      have y2 := cell_of_row _ _ 2 _ _ (0, 0) q3
      have k0 := frozen_of_row _ _ 0 _ _ q3
      have k1 := frozen_of_row _ _ 1 _ _ q3
      have k2 := frozen_of_row _ _ 2 _ _ q3
      clear q3 q2
      go_wp2_with fail
      go_roundw
      case rel => exact ⟨k + 1, hkl, by go_num, Lib.hid (by rw [HSUM.out]; exact sum_next HQ5.out.1 HQ5.out.2 HN3.out.1 HB5.out HN3.out.2.2.1 HRR2.out HLT.out.1 HLT.out.2)⟩
      case measure => simp only [intOf]; omega
    · have hke : k = qs.length := by omega
      subst hke
      rw [List.take_length] at hn hd q3 x0 x1 x2
      have HQ := Lib.hid (And.intro q3 (And.intro q2 (And.intro hb (And.intro hn hd))))
      have t0 := frozen_of_row _ _ 0 _ _ q2
      have t1 := frozen_of_row _ _ 1 _ _ q2
      have t2 := frozen_of_row _ _ 2 _ _ q2
      have v0 := cell_of_row _ _ 0 _ _ (0, 0) q2
      have v1 := cell_of_row _ _ 1 _ _ (0, 0) q2
      have v2 := cell_of_row _ _ 2 _ _ (0, 0) q2
      clear q3 q2 hb hn hd hrel
      have hll : ¬ ((qs.length : Int) < qs.length) := by omega
      go_wp2_with fail
      refine ret_row rfl _ _ j2 27 _ (0, 0) rfl (stored3 HQ.out.2.1 _ _ _) und_Rat size_Rat ?_
      exact ⟨_, rfl, ⟨_, _, rfl, (filled3 HQ.out.2.2.1 HN3.out.2.2.2 _ _ _).2 _ _ _ (Nat.lt_succ_self _) HQ.out.2.2.2.1, (filled3 HQ.out.2.2.1 HN3.out.2.2.2 _ _ _).2 _ _ _ (Nat.lt_succ_self _) HQ.out.2.2.2.2⟩, (filled3 HQ.out.2.2.1 HN3.out.2.2.2 _ _ _).1⟩

end Go.Proofs.YthlpfhenaakljaaGreatDoor

namespace Go.Proofs.YthlpfhenaakljaaGreatDoor
open Go.RowKit

theorem Ws16 {xs : List Nat} (h : Dg.Ds 65536 xs) : Ws xs := fun x hx => Nat.lt_trans (h x hx) (by decide)

/-- A slice of words is told; the world is as it was. -/
def RetV (R : List Nat) (w : World) (e : Ending) (w' : World) : Prop := ∃ v, e = .returned v ∧ Nv w' v R ∧ Below w.heap.size w w'

set_option maxHeartbeats 800000 in
theorem cut_calls (v : Value) (xs : List Nat) (w : World) (hv : Nv w v xs) (hd : Dg.Ds 65536 xs) (hl : xs.length ≤ 4398046511104) :
    Calls Tryz.prog 103 #[v] w (fun e w' => ∃ v', e = .returned v' ∧ Nv w v' (Dg.db 65536 (Dg.dv 65536 xs)) ∧ w = w') := by
  obtain ⟨hx, a, cap, rfl, hcap, hr⟩ := hv
  go_enter Tryz.func103, Tryz.ntmps103
  go_wp2_with fail
  go_loop [3] (fun i => ∃ n : Nat, n ≤ xs.length ∧ i = .int .i64 n ∧ ∀ j, n ≤ j → xs.getD j 0 = 0) (fun i => (intOf i).toNat)
  case atStart => exact ⟨xs.length, Nat.le_refl _, rfl, fun j hj => by simp [List.getD, show ¬ j < xs.length by omega]⟩
  case round =>
    obtain ⟨n, hn, rfl, hz⟩ := hrel
    by_cases h0 : n = 0
    · subst h0
      have ht := Lib.hid (Dg.take_eq_db (by decide) xs hd 0 (Nat.zero_le _) hz (.inl rfl))
      clear hz
      cases a with
      | none =>
        go_wp2_with fail
        go_ret
        exact ⟨_, rfl, by rw [← ht.out]; exact ⟨Ws.nil, none, _, rfl, by simp, .inl rfl⟩, rfl⟩
      | some ad =>
        go_wp2_with fail
        go_ret
        exact ⟨_, rfl, by rw [← ht.out]; exact ⟨Ws.nil, some ad, _, rfl, by simp, .inl rfl⟩, rfl⟩
    · have h0' : (0 : Int) < n := by omega
      rcases hr with rfl | ⟨b, off, rfl, hb, hc⟩
      · exact absurd hn (by simp; omega)
      have hc1 := hc (n - 1) (by omega)
      have ht := Dg.take_eq_db (by decide) xs hd n hn hz
      have hz' : xs.getD (n - 1) 0 = 0 → ∀ j, n - 1 ≤ j → xs.getD j 0 = 0 := fun h j hj => by
        rcases Nat.lt_or_ge j n with hlt | hge
        · have : j = n - 1 := by omega
          rw [this, h]
        · exact hz j hge
      have hr : Rd w (some ⟨b, off, none⟩) (xs.take n) := Rd.take (.inr ⟨b, off, rfl, hb, hc⟩) n
      generalize xs.getD (n - 1) 0 = x at *
      by_cases h1 : x = 0
      · subst h1
        have hz1 := Lib.hid (hz' rfl)
        clear hz hz' ht hc hr
        go_wp2_with fail
        go_round
        case rel => exact ⟨n - 1, by omega, by go_num, hz1.out⟩
        case measure => simp [intOf]; omega
      · have h1' : ((x : Int) == 0) = false := by simpa using h1
        have HT := Lib.hid (ht (.inr h1))
        clear hz hz' ht hc
        go_wp2_with fail
        go_ret
        exact ⟨_, rfl, by rw [← HT.out]; exact ⟨hx.take n, _, cap, by rw [List.length_take, Nat.min_eq_left hn]; rfl, by rw [List.length_take]; omega, hr⟩, rfl⟩

/-- A row of the call's own, by its value; nothing older is turned. -/
def Own (w : World) (v : Value) (R : List Nat) (wx : World) : Prop := No w.heap.size wx v R ∧ Below w.heap.size w wx

theorem Own.nil (w : World) : Own w (.slice none 0 0) [] w := ⟨No.nil _ _, Below.refl _ _⟩
theorem Own.alloc {w wx : World} {v : Value} {R : List Nat} (h : Own w v R wx) (o : Obj) : Own w v R (wx.alloc o) :=
  ⟨h.1.below ((Below.refl _ _).alloc (Nat.le_refl _) _), h.2.alloc h.2.size _⟩
theorem Own.append {w wx w1 : World} {v v' : Value} {R : List Nat} {x : Nat} (h : Own w v R wx) (hx : x < B64) (o : Obj) (z : Int) (hz : z = (x : Int))
    (hw : w1.ownsRow w.heap.size 43 1 v' (R.length + 1) (us R ++ [.int .u64 z])) (hg : (wx.alloc o).grownBy w1 v.ownBlock) : Own w v' (R ++ [x]) w1 := by
  subst hz
  refine ⟨⟨fun y hy => ?_, ?_⟩, ?_⟩
  · rcases List.mem_append.1 hy with h1 | h1
    · exact h.1.1 y h1
    · rw [List.mem_singleton.1 h1]; exact hx
  · rw [show us (R ++ [x]) = us R ++ [.int .u64 (x : Int)] by simp [us], List.length_append, List.length_singleton]; exact hw
  · exact (h.2.alloc h.2.size _).grown hg (Nat.le_trans h.2.size (by simp)) (fun k hk => (h.1.lt k hk).1)

theorem lit_news (w : World) (z : Int) : ∀ (j : Nat) (u : Value), [Value.int .u64 z][j]? = some u → (w.alloc (.cells #[.int .u64 z] 43)).cell? (Addr.add ⟨w.heap.size, 0, none⟩ j) = some u := by
  intro j u h
  have hj : j < 1 := by have := (List.getElem?_eq_some_iff.1 h).1; simpa using this
  obtain rfl : j = 0 := by omega
  rw [Addr.add_lit]
  have hc := cell_of_row _ _ 0 _ _ (0, 0) (heap_alloc_new w (.cells #[.int .u64 z] 43))
  simp at h
  rw [← h]
  exact hc
theorem lit_one (z : Int) : ∀ u ∈ [Value.int .u64 z], u.oneCell' = true := by
  intro u hu
  rw [List.mem_singleton.1 hu]; rfl
theorem mod16 (z : Nat) : (z : Int) % 65536 = ((z % 65536 : Nat) : Int) := by omega

theorem div16 (z : Nat) : (z : Int) / 65536 = ((z / 65536 : Nat) : Int) := by omega

theorem flat_step {xs : List Nat} {i : Nat} (hi : i < xs.length) : Dg.flat (xs.take (i + 1)) = Dg.flat (xs.take i) ++ (Dg.four (xs.getD i 0)).take 4 := by
  rw [List.take_succ_eq_append_getElem hi, Dg.flat_snoc]
  simp [List.getD, hi, Dg.four]
theorem four_step {x k : Nat} (hk : k < 4) : (Dg.four x).take (k + 1) = (Dg.four x).take k ++ [x / 65536 ^ k % 65536] := by
  rcases (show k = 0 ∨ k = 1 ∨ k = 2 ∨ k = 3 by omega) with rfl | rfl | rfl | rfl <;> simp [Dg.four, Nat.div_div_eq_div_mul]

set_option maxRecDepth 100000 in
set_option maxHeartbeats 1600000 in
theorem digits_calls (v : Value) (xs : List Nat) (w : World) (hv : Nv w v xs) (hl : xs.length ≤ 1048576) :
    Calls Tryz.prog 63 #[v] w (RetV (Dg.db 65536 (Dg.dv B64 xs)) w) := by
  obtain ⟨i0, hi, hz0, hz1, hz2⟩ := info_parts info_u64
  have hfl : Dg.dv 65536 (Dg.flat xs) = Dg.dv B64 xs := Dg.dv_flat xs hv.1
  rw [← hfl]
  clear hfl
  obtain ⟨hx, a, cap, rfl, hcap, hr⟩ := id hv
  go_enter Tryz.func63, Tryz.ntmps63
  go_wp2_with fail
  go_loopw [3, 4] (fun u s wr => ∃ i : Nat, i ≤ xs.length ∧ s = .int .i64 i ∧ Hid (Own w u (Dg.flat (xs.take i)) wr)) (fun _ s _ => xs.length - (intOf s).toNat)
  case atStart => exact ⟨0, Nat.zero_le _, rfl, Lib.hid (Own.nil w)⟩
  case round =>
    obtain ⟨i, hi1, rfl, hO⟩ := hrel
    by_cases hin : i < xs.length
    · rcases hr with rfl | ⟨b, off, rfl, hb, hc⟩
      · simp at hin
      have hcx := (hO.out.2.cell (p := ⟨b, off + i, none⟩) hb).trans (hc i hin)
      have hxb := hx.getD i
      have HF := Lib.hid (flat_step hin)
      generalize xs.getD i 0 = x at *
      clear hc
      go_wp2_with fail
      go_loopw [3, 5, 6] (fun u y s wi => ∃ k z : Nat, k ≤ 4 ∧ s = .int .i64 k ∧ y = .int .u64 z ∧ z < B64 ∧ z = x / 65536 ^ k ∧ Hid (Own w u (Dg.flat (xs.take i) ++ (Dg.four x).take k) wi)) (fun _ _ s _ => 4 - (intOf s).toNat)
      case atStart => exact ⟨0, x, by omega, rfl, rfl, hxb, by simp, Lib.hid (by simpa using hO.out)⟩
      case round =>
        obtain ⟨k, z, hk, rfl, rfl, hzb, hz, hO2⟩ := hrel
        by_cases hk4 : k < 4
        · have HS := Lib.hid (four_step (x := x) hk4)
          have HZ := Lib.hid (show z / 65536 = x / 65536 ^ (k + 1) by rw [hz, Nat.div_div_eq_div_mul, Nat.pow_succ])
          have HL := Lib.hid (show (Dg.flat (xs.take i) ++ (Dg.four x).take k).length ≤ 4194308 by
            rw [List.length_append, Dg.flat_length, List.length_take, List.length_take]; omega)
          have HZ2 := Lib.hid (show x / 65536 ^ k % 65536 = z % 65536 by rw [hz])
          have hHO := Lib.hid (hO2.out.alloc (.cells #[.int .u64 ((z : Int) % 65536)] 43))
          have hwz : IntKind.u64.wrap ((z : Int) / 65536) = (z : Int) / 65536 := by rw [IntKind.wrap_u64]; unfold B64 at hzb; omega
          clear hz hO
          generalize hRR : Dg.flat (xs.take i) ++ (Dg.four x).take k = R at *
          have HRR := Lib.hid hRR
          clear hRR
          go_wp2_with (at_builtin; refine wpList_append_own _ rfl _ _ 22 rfl w.heap.size 43 i0 (.int .u64 0) 1 8 und_u64s hi hz0 hz1 hz2 rfl (by decide) _ R.length (us R) rfl hHO.out.1.2 ⟨wr.heap.size, 0, none⟩ 1 1 [.int .u64 ((z : Int) % 65536)] rfl rfl ?c1 ?c2 ?c3 ?c4 ?c5 ?_)
          case c1 => exact lit_news _ _
          case c2 => exact lit_one _
          case c3 => have := HL.out; unfold maxLen; omega
          case c4 => have := HL.out; omega
          case c5 => exact hHO.out.2.size
          intro v' w1 hown hg _
          have HO3 := Lib.hid (Own.append hO2.out (Nat.lt_of_lt_of_le (Nat.mod_lt z (by decide : 0 < 65536)) (by decide : 65536 ≤ B64)) _ _ (mod16 z) hown hg)
          clear hown hg
          go_wp2_with fail
          go_roundw
          case rel => exact ⟨k + 1, z / 65536, hk4, by go_num, by rw [div16], Nat.lt_of_le_of_lt (Nat.div_le_self _ _) hzb, HZ.out, Lib.hid (by rw [HS.out, ← List.append_assoc, HZ2.out, HRR.out]; exact HO3.out)⟩
          case measure => simp only [intOf]; omega
        · have hk' : k = 4 := by omega
          subst hk'
          go_wp2_with fail
          go_roundw
          case rel => exact ⟨i + 1, hin, by go_num, Lib.hid (by rw [HF.out]; exact hO2.out)⟩
          case measure => simp only [intOf]; omega
    · have hie : i = xs.length := by omega
      subst hie
      rw [List.take_length] at hO
      have hll : ¬ ((xs.length : Int) < xs.length) := by omega
      have HC := Lib.hid (cut_calls _ _ wr hO.out.1.nv (Dg.Ds_flat xs) (by rw [Dg.flat_length]; omega))
      obtain ⟨a9, c9, rfl⟩ := hO.out.1.slice
      go_wp2_with fail
      refine HC.out.mono ?_
      rintro e w5 ⟨v', rfl, hn, rfl⟩
      have HN := Lib.hid hn
      clear hn
      go_wp2_with fail
      go_ret
      exact ⟨_, rfl, HN.out, hO.out.2⟩

end Go.Proofs.YthlpfhenaakljaaGreatDoor

namespace Go.Proofs.YthlpfhenaakljaaGreatDoor
open Go.RowKit

theorem take_all_db {b V j : Nat} (h : (Dg.db b V).length ≤ j) : (Dg.db b V).take j = Dg.db b V := List.take_of_length_le h
theorem limb_join (V j : Nat) : V / 65536 ^ (4 * j) % 65536 ^ 4 = V / B64 ^ j % B64 := by
  have e : (65536 : Nat) ^ (4 * j) = B64 ^ j := by rw [Nat.pow_mul]; rfl
  rw [e]; rfl
theorem take_limb {V j : Nat} (hj : 4 * j < (Dg.db 65536 V).length) : (Dg.db B64 V).take (j + 1) = (Dg.db B64 V).take j ++ [V / 65536 ^ (4 * j) % 65536 ^ 4] := by
  rw [limb_join]
  exact Dg.take_db (by decide) V j (Dg.limbs_more hj)

/-- In the inner loop of Join. -/
def JoinAt (V j m x : Nat) : Prop := x = V / 65536 ^ m % 65536 ^ (4 * j + 4 - m) ∧ 4 * j ≤ m ∧ m ≤ 4 * j + 4 ∧ m ≤ (Dg.db 65536 V).length
theorem JoinAt.start {V j : Nat} (hj : 4 * j < (Dg.db 65536 V).length) : JoinAt V j (min (Dg.db 65536 V).length (4 * j + 4)) 0 := by
  refine ⟨?_, by omega, by omega, by omega⟩
  rcases Nat.lt_or_ge (Dg.db 65536 V).length (4 * j + 4) with h | h
  · rw [Nat.min_eq_left (Nat.le_of_lt h), Nat.div_eq_of_lt (Dg.lt_pow_length (by decide) V), Nat.zero_mod]
  · rw [Nat.min_eq_right h, Nat.sub_self, Nat.pow_zero, Nat.mod_one]
theorem JoinAt.step {V j m x : Nat} (h : JoinAt V j (m + 1) x) (hm : 4 * j ≤ m) :
    JoinAt V j m (x * 65536 + V / 65536 ^ m % 65536) ∧ x * 65536 + V / 65536 ^ m % 65536 < 18446744073709551616 := by
  obtain ⟨h1, h2, h3, h4⟩ := h
  have e : 4 * j + 4 - m = (4 * j + 4 - (m + 1)) + 1 := by omega
  have hx : x * 65536 + V / 65536 ^ m % 65536 = V / 65536 ^ m % 65536 ^ (4 * j + 4 - m) := by
    rw [e, Dg.digit_join, ← h1]
  have hlt : V / 65536 ^ m % 65536 ^ (4 * j + 4 - m) < 18446744073709551616 := by
    refine Nat.lt_of_lt_of_le (Nat.mod_lt _ (Nat.pow_pos (by decide))) ?_
    exact Nat.le_trans (Nat.pow_le_pow_right (by decide) (show 4 * j + 4 - m ≤ 4 by omega)) (by decide)
  exact ⟨⟨hx, hm, by omega, by omega⟩, by rw [hx]; exact hlt⟩
theorem JoinAt.done {V j x : Nat} (h : JoinAt V j (4 * j) x) : x = V / 65536 ^ (4 * j) % 65536 ^ 4 := by
  rw [h.1]; congr 2; omega

theorem db_digit {V k : Nat} : (Dg.db 65536 V).getD k 0 = V / 65536 ^ k % 65536 := by
  rw [Dg.getD_eq (by decide) _ (Dg.db_Ds (by decide) V), Dg.dv_db (by decide)]

set_option maxRecDepth 100000 in
set_option maxHeartbeats 1600000 in
theorem join_calls (v : Value) (xs : List Nat) (w : World) (hv : Nv w v xs) (hd : Dg.Ds 65536 xs) (hl : xs.length ≤ 8388608) :
    Calls Tryz.prog 64 #[v] w (RetN (Dg.db B64 (Dg.dv 65536 xs)) w) := by
  obtain ⟨i0, hi, hz0, hz1, hz2⟩ := info_parts info_u64
  have HC := Lib.hid (cut_calls v xs w hv hd (by omega))
  have hlen : (Dg.db 65536 (Dg.dv 65536 xs)).length ≤ 8388608 := Nat.le_trans (Dg.db_length (by decide) (Dg.dv_lt xs hd)) hl
  obtain ⟨_, a, cap, rfl, _, _⟩ := id hv
  clear hv hd
  generalize Dg.dv 65536 xs = V at *
  go_enter Tryz.func64, Tryz.ntmps64
  go_wp2_with fail
  refine HC.out.mono ?_
  rintro e w' ⟨v', rfl, hn, rfl⟩
  obtain ⟨hx, a1, c1, rfl, hcap, hr⟩ := hn
  go_wp2_with fail
  go_loopw [3, 4] (fun u s wr => ∃ j : Nat, 4 * j ≤ (Dg.db 65536 V).length + 3 ∧ s = .int .i64 (4 * (j : Int)) ∧ Hid (Own w u ((Dg.db B64 V).take j) wr)) (fun _ s _ => (Dg.db 65536 V).length + 4 - (intOf s).toNat)
  case atStart => exact ⟨0, by omega, rfl, Lib.hid (by rw [List.take_zero]; exact Own.nil w)⟩
  case round =>
    obtain ⟨j, hj, rfl, hO⟩ := hrel
    by_cases hjn : 4 * j < (Dg.db 65536 V).length
    · have hS := Lib.hid (JoinAt.start hjn)
      have hmin : min ((Dg.db 65536 V).length : Int) (4 * (j : Int) + 4) = ((min (Dg.db 65536 V).length (4 * j + 4) : Nat) : Int) := by omega
      have HT := Lib.hid (take_limb hjn)
      generalize hM : min (Dg.db 65536 V).length (4 * j + 4) = M at *
      have hM2 : M ≤ 4 * j + 4 := by omega
      clear hM
      go_wp2_with fail
      go_loop [5, 6] (fun y s => ∃ m x : Nat, s = .int .i64 ((m : Int) - 1) ∧ y = .int .u64 x ∧ m ≤ 4 * j + 4 ∧ 4 * j ≤ m ∧ Hid (JoinAt V j m x)) (fun _ s => (intOf s + 1).toNat - 4 * j)
      case atStart => exact ⟨M, 0, rfl, rfl, hM2, hS.out.2.1, hS⟩
      case round =>
        obtain ⟨m, x, rfl, rfl, hm2, hm1, hJ⟩ := hrel
        by_cases hm : m = 4 * j
        · have HX := Lib.hid (show x = V / 65536 ^ (4 * j) % 65536 ^ 4 by subst hm; exact hJ.out.done)
          have hge : ¬ ((m : Int) - 1 ≥ 4 * (j : Int)) := by omega
          have HXB := Lib.hid (show x < B64 by rw [HX.out]; exact Nat.mod_lt _ (by decide))
          have HL := Lib.hid (show ((Dg.db B64 V).take j).length ≤ 8388612 by rw [List.length_take]; omega)
          have hHO := Lib.hid (hO.out.alloc (.cells #[.int .u64 (x : Int)] 43))
          clear hJ hS
          generalize hRR : (Dg.db B64 V).take j = R at *
          have HRR := Lib.hid hRR
          clear hRR
          go_wp2_with (at_builtin; refine wpList_append_own _ rfl _ _ 23 rfl w.heap.size 43 i0 (.int .u64 0) 1 8 und_Nat hi hz0 hz1 hz2 rfl (by decide) _ R.length (us R) rfl hHO.out.1.2 ⟨wr.heap.size, 0, none⟩ 1 1 [.int .u64 (x : Int)] rfl rfl (lit_news _ _) (lit_one _) ?c3 ?c4 ?c5 ?_)
          case c3 => have := HL.out; unfold maxLen; omega
          case c4 => have := HL.out; omega
          case c5 => have := hO.out.2.size; omega
          intro v' w1 hown hg _
          have HO3 := Lib.hid (Own.append hO.out HXB.out _ _ rfl hown hg)
          clear hown hg
          go_wp2_with fail
          go_roundw
          case rel => exact ⟨j + 1, by omega, by go_num, Lib.hid (by rw [HT.out, ← HX.out]; exact HO3.out)⟩
          case measure => simp only [intOf]; omega
        · obtain ⟨k, rfl⟩ : ∃ k, m = k + 1 := ⟨m - 1, by omega⟩
          have hk : 4 * j ≤ k := by omega
          obtain ⟨hJ2, hlt⟩ := hJ.out.step hk
          have hkl : k < (Dg.db 65536 V).length := by have := hJ.out.2.2.2; omega
          rcases hr with h0 | ⟨b, off, rfl, hb, hc⟩
          · simp [h0] at hkl
          have hck := (hO.out.2.cell (p := ⟨b, off + k, none⟩) hb).trans (hc k hkl)
          rw [db_digit] at hck
          have HJ2 := Lib.hid hJ2
          generalize V / 65536 ^ k % 65536 = y at *
          have hw1 : IntKind.u64.wrap ((x : Int) * 65536) = (x : Int) * 65536 := by rw [IntKind.wrap_u64]; omega
          have hw2 : IntKind.u64.wrap ((x : Int) * 65536 + y) = (x : Int) * 65536 + y := by rw [IntKind.wrap_u64]; omega
          have hge : ((k + 1 : Nat) : Int) - 1 ≥ 4 * (j : Int) := by omega
          have hki : ((k + 1 : Nat) : Int) - 1 = (k : Int) := by omega
          rw [hki] at hge ⊢
          clear hc hJ hS hJ2 hlt
          go_wp2_with fail
          go_round
          case rel => exact ⟨k, x * 65536 + y, by go_num, by rw [show ((x * 65536 + y : Nat) : Int) = (x : Int) * 65536 + y from by omega], by omega, hk, HJ2⟩
          case measure => simp only [intOf]; omega
    · have HT := Lib.hid (take_all_db (Dg.limbs_done (show (Dg.db 65536 V).length ≤ 4 * j by omega)))
      have hll : ¬ (4 * (j : Int) < (Dg.db 65536 V).length) := by omega
      go_wp2_with fail
      go_ret
      exact ⟨_, rfl, by have h := hO.out.1; rw [show (18446744073709551616 : Nat) = B64 from rfl] at HT; rw [HT.out] at h; exact h, hO.out.2⟩

end Go.Proofs.YthlpfhenaakljaaGreatDoor

namespace Go.Proofs.YthlpfhenaakljaaGreatDoor
open Go.RowKit

theorem dig_len {xs : List Nat} (hx : Ws xs) : (Dg.db 65536 (Dg.dv B64 xs)).length ≤ 4 * xs.length := by
  refine Nat.le_trans (Dg.db_len4 _) (Nat.mul_le_mul_left _ ?_)
  exact Dg.db_length (by decide) (Dg.dv_lt xs hx)

set_option maxHeartbeats 800000 in
theorem trim2_calls (v : Value) (xs : List Nat) (w : World) (hv : Nv w v xs) (hl : xs.length ≤ 1048576) :
    Calls Tryz.prog 65 #[v] w (RetN (Dg.db B64 (Dg.dv B64 xs)) w) := by
  have HD := Lib.hid (digits_calls v xs w hv hl)
  have HL := Lib.hid (dig_len hv.1)
  obtain ⟨_, a, cap, rfl, _, _⟩ := id hv
  clear hv
  generalize Dg.dv B64 xs = V at *
  go_enter Tryz.func65, Tryz.ntmps65
  go_wp2_with fail
  refine HD.out.mono ?_
  rintro e w1 ⟨v1, rfl, hn, hb⟩
  have HJ := Lib.hid (join_calls v1 _ w1 hn (Dg.db_Ds (by decide) V) (by have := HL.out; omega))
  rw [Dg.dv_db (by decide)] at HJ
  obtain ⟨_, a1, c1, rfl, _, _⟩ := id hn
  have HB := Lib.hid hb
  clear hn hb
  go_wp2_with fail
  refine HJ.out.mono ?_
  rintro e w2 ⟨v2, rfl, hn2, hb2⟩
  obtain ⟨a2, c2, rfl⟩ := hn2.slice
  have HN := Lib.hid (hn2.mono HB.out.size)
  have HB2 := Lib.hid (HB.out.trans (hb2.mono HB.out.size))
  clear hn2 hb2
  go_wp2_with fail
  go_ret
  exact ⟨_, rfl, HN.out, HB2.out⟩

theorem Nv.lit (w : World) {n : Nat} (hn : n < B64) : Nv (w.alloc (.cells #[.int .u64 (n : Int)] 43)) (.slice (some ⟨w.heap.size, 0, none⟩) 1 1) [n] := by
  refine ⟨fun x hx => by rw [List.mem_singleton.1 hx]; exact hn, _, 1, rfl, Nat.le_refl _, .inr ⟨w.heap.size, 0, rfl, by simp, fun j hj => ?_⟩⟩
  obtain rfl : j = 0 := by simpa using hj
  exact cell_of_row _ _ 0 _ _ (0, 0) (heap_alloc_new w _)

set_option maxHeartbeats 800000 in
theorem of2_calls (n : Nat) (w : World) (hn : n < B64) : Calls Tryz.prog 107 #[.int .u64 n] w (RetN (Dg.db B64 n) w) := by
  have HT := Lib.hid (trim2_calls _ [n] (w.alloc (.cells #[.int .u64 (n : Int)] 43)) (Nv.lit w hn) (by simp))
  rw [show Dg.dv B64 [n] = n by simp [Dg.dv]] at HT
  clear hn
  go_enter Tryz.func107, Tryz.ntmps107
  go_wp2_with fail
  refine HT.out.mono ?_
  rintro e w2 ⟨v2, rfl, hn2, hb2⟩
  obtain ⟨a2, c2, rfl⟩ := hn2.slice
  have hba : Below w.heap.size w (w.alloc (.cells #[.int .u64 (n : Int)] 43)) := (Below.refl _ _).alloc (Nat.le_refl _) _
  have HN := Lib.hid (hn2.mono hba.size)
  have HB2 := Lib.hid (hba.trans (hb2.mono hba.size))
  clear hn2 hb2 hba
  go_wp2_with fail
  go_ret
  exact ⟨_, rfl, HN.out, HB2.out⟩

theorem db_small {V : Nat} (h0 : V ≠ 0) (h : V < B64) : (Dg.db B64 V).length = 1 ∧ (Dg.db B64 V).getD 0 0 = V := by
  have h1 : (Dg.db B64 V).length ≤ 1 := Dg.db_length (by decide) (by simpa using h)
  have h2 := Dg.db_length_gt (b := B64) (n := V) (k := 0) (by decide) (by simp; omega)
  refine ⟨by omega, ?_⟩
  rw [Dg.getD_eq (by decide) _ (Dg.db_Ds (by decide) V), Dg.dv_db (by decide)]
  simp [Nat.mod_eq_of_lt h]
theorem db_big {V : Nat} (h : B64 ≤ V) : 1 < (Dg.db B64 V).length := Dg.db_length_gt (by decide) (by simpa using h)

set_option maxHeartbeats 1600000 in
theorem small2_calls (v : Value) (xs : List Nat) (w : World) (hv : Nv w v xs) (hl : xs.length ≤ 1048576) :
    Calls Tryz.prog 106 #[v] w (fun e w' => e = .returned (.tuple #[.int .u64 (if Dg.dv B64 xs < B64 then Dg.dv B64 xs else 0 : Nat), .bool (decide (Dg.dv B64 xs < B64))]) ∧ Below w.heap.size w w') := by
  have HT := Lib.hid (trim2_calls v xs w hv hl)
  obtain ⟨_, a, cap, rfl, _, _⟩ := id hv
  clear hv
  generalize Dg.dv B64 xs = V at *
  by_cases h0 : V = 0
  · subst h0
    rw [Dg.db_zero] at HT
    rw [if_pos (show 0 < B64 by decide), decide_eq_true (show 0 < B64 by decide)]
    go_enter Tryz.func106, Tryz.ntmps106
    go_wp2_with fail
    refine HT.out.mono ?_
    rintro e w2 ⟨v2, rfl, hn2, hb2⟩
    obtain ⟨a2, c2, rfl⟩ := hn2.slice
    clear hn2
    have HB := Lib.hid hb2
    clear hb2
    rw [List.length_nil]
    go_wp2_with fail
    go_ret2
    exact ⟨rfl, HB.out⟩
  · by_cases h1 : V < B64
    · obtain ⟨hl1, hg⟩ := db_small h0 h1
      rw [if_pos h1, decide_eq_true h1]
      go_enter Tryz.func106, Tryz.ntmps106
      go_wp2_with fail
      refine HT.out.mono ?_
      rintro e w2 ⟨v2, rfl, hn2, hb2⟩
      obtain ⟨_, a2, c2, rfl, _, hr⟩ := hn2.nv
      rcases hr with hr | ⟨b, off, rfl, hb, hc⟩
      · simp [hr] at hl1
      have hc0 := hc 0 (by omega)
      rw [hg, Nat.add_zero] at hc0
      rw [hl1]
      have HB := Lib.hid hb2
      clear hb2 hn2 hc hg
      go_wp2_with fail
      go_ret2
      exact ⟨rfl, HB.out⟩
    · have hl2 := db_big (show B64 ≤ V by omega)
      rw [if_neg h1, decide_eq_false h1]
      go_enter Tryz.func106, Tryz.ntmps106
      go_wp2_with fail
      refine HT.out.mono ?_
      rintro e w2 ⟨v2, rfl, hn2, hb2⟩
      obtain ⟨a2, c2, rfl⟩ := hn2.slice
      have hl3 : ((Dg.db B64 V).length : Int) > 1 := by omega
      have HB := Lib.hid hb2
      clear hb2 hn2
      go_wp2_with fail
      go_ret2
      exact ⟨rfl, HB.out⟩

set_option maxHeartbeats 1600000 in
theorem same2_calls (v1 v2 : Value) (xs ys : List Nat) (w : World) (h1 : Nv w v1 xs) (h2 : Nv w v2 ys) (l1 : xs.length ≤ 1099511627776) :
    Calls Tryz.prog 38 #[v1, v2] w (fun e w' => e = .returned (.bool (decide (xs = ys))) ∧ ∃ m, w' = w.drewN m) := by
  obtain ⟨hx, a1, c1, rfl, hc1, hr1⟩ := h1
  obtain ⟨hy, a2, c2, rfl, hc2, hr2⟩ := h2
  by_cases hlen : xs.length = ys.length
  · go_enter Tryz.func38, Tryz.ntmps38
    have hle : ((xs.length : Int) != ys.length) = false := by simp [hlen]
    go_wp2_with fail
    go_loopw [5] (fun s wr => ∃ i : Nat, i ≤ xs.length ∧ s = .int .i64 i ∧ (∀ j, j < i → xs.getD j 0 = ys.getD j 0) ∧ Hid (∃ m, wr = w.drewN m)) (fun s _ => xs.length - (intOf s).toNat)
    case atStart => exact ⟨0, Nat.zero_le _, rfl, fun j hj => by omega, Lib.hid ⟨0, rfl⟩⟩
    case round =>
      obtain ⟨i, hi, rfl, hp, hW⟩ := hrel
      obtain ⟨m0, hW0⟩ := hW.out
      have HBW := Lib.hid (show Below w.heap.size w wr by rw [hW0]; exact below_drewN (Below.refl _ _) _)
      clear hW0
      by_cases hin : i < xs.length
      · rcases hr1 with h0 | ⟨b1, o1, rfl, hb1, hcc1⟩
        · simp [h0] at hin
        rcases hr2 with h0 | ⟨b2, o2, rfl, hb2, hcc2⟩
        · simp [h0] at hlen; simp [hlen] at hin
        have hx1 := (HBW.out.cell (p := ⟨b1, o1 + i, none⟩) hb1).trans (hcc1 i hin)
        have hy1 := (HBW.out.cell (p := ⟨b2, o2 + i, none⟩) hb2).trans (hcc2 i (by omega))
        have hil : (i : Int) < ys.length := by omega
        by_cases he : xs.getD i 0 = ys.getD i 0
        · have HP := Lib.hid (show ∀ j, j < i + 1 → xs.getD j 0 = ys.getD j 0 from fun j hj => by
            rcases Nat.lt_or_ge j i with h | h
            · exact hp j h
            · obtain rfl : j = i := by omega
              exact he)
          clear hp hcc1 hcc2
          rw [he] at hx1
          generalize ys.getD i 0 = y at *
          clear he
          go_wp2_with fail
          go_quiet (fail)
          go_wp2_with fail
          go_roundw
          case rel =>
            obtain ⟨m, hm⟩ := hW.out
            exact ⟨i + 1, hin, by go_num, HP.out, Lib.hid ⟨m + nq, by rw [hm, World.drewN_drewN]⟩⟩
          case measure => simp only [intOf]; omega
        · have hne : xs ≠ ys := fun h => he (by rw [h])
          have HNE := Lib.hid (show decide (xs = ys) = false from decide_eq_false hne)
          clear hp hcc1 hcc2 hne
          generalize ys.getD i 0 = y at *
          generalize xs.getD i 0 = x at *
          have hne2 : ((x : Int) != (y : Int)) = true := by simp; omega
          clear he
          go_wp2_with fail
          go_quiet (fail)
          go_wp2_with fail
          go_ret
          obtain ⟨m, hm⟩ := hW.out
          exact ⟨by rw [HNE.out]; rfl, m + nq, by rw [hm, World.drewN_drewN]⟩
      · have hxy : xs = ys := by
          refine List.ext_getElem hlen fun j h1 h2 => ?_
          have := hp j (by omega)
          simpa [List.getD, h1, h2] using this
        have HE := Lib.hid (show decide (xs = ys) = true from decide_eq_true hxy)
        have hil : ¬ ((i : Int) < xs.length) := by omega
        clear hp hxy
        go_wp2_with fail
        go_ret
        exact ⟨by rw [HE.out]; rfl, hW.out⟩
  · have HE := Lib.hid (show decide (xs = ys) = false from decide_eq_false fun h => hlen (by rw [h]))
    have hle : ((xs.length : Int) != ys.length) = true := by simp; omega
    go_enter Tryz.func38, Tryz.ntmps38
    go_wp2_with fail
    go_ret
    exact ⟨by rw [HE.out]; rfl, 0, rfl⟩

end Go.Proofs.YthlpfhenaakljaaGreatDoor
