/- rat.count. rat.Of. rat.Neg. Behind a, b = count(a), count(b). rat.Mul. whole.ways and what they do: a sum of whole numbers. whole.Add. rat.Add. -/
import Derived.Test.YthlpfhenaakljaaGreatDoorL03
import Derived.Deep.RegionWith
import Derived.Deep.DeepCutAuto
namespace Go.Proofs.YthlpfhenaakljaaGreatDoor
open Go.RowKit

/-- A fraction's value: numerator and denominator in lowest terms; without a denominator: 0 over 1. -/
def redZ (b : Bool) (n d : Nat) : Int := if d = 0 then 0 else sgn b (n / Nat.gcd n d)
def redD (n d : Nat) : Nat := if d = 0 then 1 else d / Nat.gcd n d

/-- A fraction of the call's own is told. -/
def RetR (z : Int) (d : Nat) (w : World) (e : Ending) (w' : World) : Prop := ∃ v, e = .returned v ∧ RR z d w.heap.size w' v ∧ Below w.heap.size w w'

set_option maxHeartbeats 1600000 in
theorem count1_calls (b : Bool) (m1 m2 : Value) (xs ys : List Nat) (w : World) (h1 : Nv w m1 xs) (h2 : Nv w m2 ys) (l1 : xs.length ≤ 549755813888) (l2 : ys.length ≤ 549755813888) (h0 : Dg.dv B64 ys ≠ 0) :
    Calls Tryz.prog 31 #[.agg #[.bool b, m1, m2]] w (RetR (redZ b (Dg.dv B64 xs) (Dg.dv B64 ys)) (redD (Dg.dv B64 xs) (Dg.dv B64 ys)) w) := by
  obtain ⟨_, a1, c1, rfl, _, _⟩ := id h1
  obtain ⟨_, a2, c2, rfl, _, _⟩ := id h2
  have MK := Lib.hid (fun wx (hb : Below w.heap.size w wx) => rmake_calls b _ _ xs ys wx (h1.below hb) (h2.below hb) l1 l2)
  have e1 : redZ b (Dg.dv B64 xs) (Dg.dv B64 ys) = sgn b (Dg.dv B64 xs / Nat.gcd (Dg.dv B64 xs) (Dg.dv B64 ys)) := by unfold redZ; rw [if_neg h0]
  have e2 : redD (Dg.dv B64 xs) (Dg.dv B64 ys) = Dg.dv B64 ys / Nat.gcd (Dg.dv B64 xs) (Dg.dv B64 ys) := by unfold redD; rw [if_neg h0]
  rw [e1, e2]
  have H0 := Lib.hid h0
  clear h1 h2 h0 e1 e2 l1 l2
  generalize Dg.dv B64 xs = n at *
  generalize Dg.dv B64 ys = d at *
  generalize hz : sgn b (n / Nat.gcd n d) = z at *
  generalize hd : d / Nat.gcd n d = dd at *
  have HZ := Lib.hid hz
  have HD := Lib.hid hd
  clear hz hd
  go_enter Tryz.func31, Tryz.ntmps31
  go_upto_region 1 with fail
  obtain ⟨g1, g2, hB0, hsz⟩ := two_blocks w (.cells #[.bool b, .slice a1 xs.length c1, .slice a2 ys.length c2] 27) (.cells #[.bool false, .slice none 0 0, .slice none 0 0] 27)
  generalize (w.alloc (.cells #[.bool b, .slice a1 xs.length c1, .slice a2 ys.length c2] 27)).alloc (.cells #[.bool false, .slice none 0 0, .slice none 0 0] 27) = W at *
  have HM := Lib.hid (MK.out _ hB0)
  have HG2 := Lib.hid g2
  have HB0 := Lib.hid hB0
  have HS0 := Lib.hid (show w.heap.size ≤ W.heap.size by omega)
  have hc0 := cell_of_row _ _ 0 _ _ (0, 0) g1
  have hc1 := cell_of_row _ _ 1 _ _ (0, 0) g1
  have hc2 := cell_of_row _ _ 2 _ _ (0, 0) g1
  have hge := Lib.hid (show w.heap.size ≤ w.heap.size + 1 by omega)
  clear g1 g2 hB0 hsz MK
  generalize w.heap.size + 1 = j3 at *
  generalize hj : w.heap.size = j1 at *
  have HJ := Lib.hid hj
  clear hj
  go_wp2_with fail
  refine HM.out.mono ?_
  rintro e w2 ⟨hb, _, hq⟩
  obtain ⟨v, rfl, vn, vd, rfl, hn, hdn⟩ := hq H0.out
  rw [HZ.out] at hn ⊢
  rw [HD.out] at hdn
  obtain ⟨a5, c5, rfl⟩ := hn.slice
  obtain ⟨a6, c6, rfl⟩ := hdn.slice
  have HN := Lib.hid hn
  have HDN := Lib.hid hdn
  have HB2 := Lib.hid (HB0.out.trans (hb.mono HS0.out))
  have HS2 := Lib.hid (Nat.le_trans HS0.out hb.size)
  have hgg := block_of hb HG2.out
  have hj3 := Lib.hid (heap_lt HG2.out)
  have hlt := heap_lt hgg
  have HG2 := Lib.hid hgg
  have hf0 := frozen_of_row _ _ 0 _ _ hgg
  have hf1 := frozen_of_row _ _ 1 _ _ hgg
  have hf2 := frozen_of_row _ _ 2 _ _ hgg
  have hr0 := cell_of_row _ _ 0 _ _ (0, 0) hgg
  have hr1 := cell_of_row _ _ 1 _ _ (0, 0) hgg
  have hr2 := cell_of_row _ _ 2 _ _ (0, 0) hgg
  clear hq hn hdn hb hgg
  generalize hze : decide (z < 0) = bb at *
  have HZE := Lib.hid hze
  clear hze
  go_wp2_with fail
  refine ret_row rfl _ _ j3 27 _ (0, 0) rfl ((heap_alloc_old _ _ (by simpa using hlt)).trans (stored3 HG2.out _ _ _)) und_Rat size_Rat ?_
  have hj := HJ.out
  subst hj
  obtain ⟨f1, f2⟩ := filled3 HB2.out hge.out (.bool bb) (.slice a5 (Dg.db B64 z.natAbs).length c5) (.slice a6 (Dg.db B64 dd).length c6)
  refine ⟨_, rfl, ⟨.slice a5 (Dg.db B64 z.natAbs).length c5, .slice a6 (Dg.db B64 dd).length c6, by rw [HZE.out], ?_, ?_⟩, f1.alloc (by simpa using HS2.out) _⟩
  · exact (f2 _ _ _ hj3.out HN.out).below ((Below.refl _ _).alloc (Nat.le_refl _) _)
  · exact (f2 _ _ _ hj3.out HDN.out).below ((Below.refl _ _).alloc (Nat.le_refl _) _)

set_option maxHeartbeats 1600000 in
theorem count0_calls (b : Bool) (m1 m2 : Value) (xs ys : List Nat) (w : World) (h1 : Nv w m1 xs) (h2 : Nv w m2 ys) (l1 : xs.length ≤ 549755813888) (l2 : ys.length ≤ 549755813888) (h0 : Dg.dv B64 ys = 0) :
    Calls Tryz.prog 31 #[.agg #[.bool b, m1, m2]] w (RetR (redZ b (Dg.dv B64 xs) (Dg.dv B64 ys)) (redD (Dg.dv B64 xs) (Dg.dv B64 ys)) w) := by
  obtain ⟨_, a1, c1, rfl, _, _⟩ := id h1
  obtain ⟨_, a2, c2, rfl, _, _⟩ := id h2
  have MK := Lib.hid (fun wx (hb : Below w.heap.size w wx) => rmake_calls b _ _ xs ys wx (h1.below hb) (h2.below hb) l1 l2)
  have e1 : redZ b (Dg.dv B64 xs) (Dg.dv B64 ys) = 0 := by unfold redZ; rw [if_pos h0]
  have e2 : redD (Dg.dv B64 xs) (Dg.dv B64 ys) = 1 := by unfold redD; rw [if_pos h0]
  rw [e1, e2]
  have H0 := Lib.hid h0
  clear h1 h2 h0 e1 e2 l1 l2
  generalize Dg.dv B64 xs = n at *
  generalize Dg.dv B64 ys = d at *
  go_enter Tryz.func31, Tryz.ntmps31
  go_upto_region 1 with fail
  obtain ⟨g1, g2, hB0, hsz⟩ := two_blocks w (.cells #[.bool b, .slice a1 xs.length c1, .slice a2 ys.length c2] 27) (.cells #[.bool false, .slice none 0 0, .slice none 0 0] 27)
  generalize (w.alloc (.cells #[.bool b, .slice a1 xs.length c1, .slice a2 ys.length c2] 27)).alloc (.cells #[.bool false, .slice none 0 0, .slice none 0 0] 27) = W at *
  have HM := Lib.hid (MK.out _ hB0)
  have HG2 := Lib.hid g2
  have HB0 := Lib.hid hB0
  have HS0 := Lib.hid (show w.heap.size ≤ W.heap.size by omega)
  have hc0 := cell_of_row _ _ 0 _ _ (0, 0) g1
  have hc1 := cell_of_row _ _ 1 _ _ (0, 0) g1
  have hc2 := cell_of_row _ _ 2 _ _ (0, 0) g1
  have hge := Lib.hid (show w.heap.size ≤ w.heap.size + 1 by omega)
  clear g1 g2 hB0 hsz MK
  generalize w.heap.size + 1 = j3 at *
  generalize hj : w.heap.size = j1 at *
  have HJ := Lib.hid hj
  clear hj
  go_wp2_with fail
  refine HM.out.mono ?_
  rintro e w2 ⟨hb, hq, _⟩
  obtain rfl := hq H0.out
  have HB2 := Lib.hid ((HB0.out.trans (hb.mono HS0.out)).alloc (Nat.le_trans HS0.out hb.size) (.cells #[.bool false, .slice none 0 0, .slice none 0 0] 27))
  have hs3 : (w2.alloc (.cells #[.bool false, .slice none 0 0, .slice none 0 0] 27)).heap.size = w2.heap.size + 1 := by simp
  have HS2 := Lib.hid (show j1 ≤ (w2.alloc (.cells #[.bool false, .slice none 0 0, .slice none 0 0] 27)).heap.size from by have := hb.size; have := HS0.out; omega)
  have HG3 : Hid ((w2.alloc (.cells #[.bool false, .slice none 0 0, .slice none 0 0] 27)).heap[j3]? = _) := Lib.hid ((heap_alloc_old _ _ (heap_lt (block_of hb HG2.out))).trans (block_of hb HG2.out))
  clear hq hb hs3
  go_wp2_with fail
  refine (one_of_calls _).mono ?_
  rintro e w3 ⟨v, rfl, hno, hb⟩
  obtain ⟨a6, c6, rfl⟩ := hno.slice
  have HN := Lib.hid hno
  have HB3 := Lib.hid (HB2.out.trans (hb.mono HS2.out))
  have hgg := block_of hb HG3.out
  have hj3 := Lib.hid (heap_lt HG3.out)
  have HG4 := Lib.hid hgg
  have hf0 := frozen_of_row _ _ 0 _ _ hgg
  have hf1 := frozen_of_row _ _ 1 _ _ hgg
  have hf2 := frozen_of_row _ _ 2 _ _ hgg
  have hr0 := cell_of_row _ _ 0 _ _ (0, 0) hgg
  have hr1 := cell_of_row _ _ 1 _ _ (0, 0) hgg
  have hr2 := cell_of_row _ _ 2 _ _ (0, 0) hgg
  clear hno hb hgg
  go_wp2_with fail
  refine ret_row rfl _ _ j3 27 _ (0, 0) rfl (stored3 HG4.out _ _ _) und_Rat size_Rat ?_
  have hj := HJ.out
  subst hj
  obtain ⟨f1, f2⟩ := filled3 HB3.out hge.out (.bool false) (.slice none 0 0) (.slice a6 (Dg.db B64 1).length c6)
  exact ⟨_, rfl, ⟨.slice none 0 0, .slice a6 (Dg.db B64 1).length c6, rfl, No.nil _ _, f2 _ _ _ hj3.out HN.out⟩, f1⟩

theorem count_calls (b : Bool) (m1 m2 : Value) (xs ys : List Nat) (w : World) (h1 : Nv w m1 xs) (h2 : Nv w m2 ys) (l1 : xs.length ≤ 549755813888) (l2 : ys.length ≤ 549755813888) :
    Calls Tryz.prog 31 #[.agg #[.bool b, m1, m2]] w (RetR (redZ b (Dg.dv B64 xs) (Dg.dv B64 ys)) (redD (Dg.dv B64 xs) (Dg.dv B64 ys)) w) := by
  by_cases h0 : Dg.dv B64 ys = 0
  · exact count0_calls b m1 m2 xs ys w h1 h2 l1 l2 h0
  · exact count1_calls b m1 m2 xs ys w h1 h2 l1 l2 h0

end Go.Proofs.YthlpfhenaakljaaGreatDoor

namespace Go.Proofs.YthlpfhenaakljaaGreatDoor
open Go.RowKit

set_option maxHeartbeats 1600000 in
theorem rof_calls (n : Int) (w : World) (h1 : -9223372036854775808 ≤ n) (h2 : n ≤ 9223372036854775807) : Calls Tryz.prog 25 #[.int .i64 n] w (RetR n 1 w) := by
  have OC := Lib.hid (fun wx => wof_calls n wx h1 h2)
  clear h1 h2
  go_enter Tryz.func25, Tryz.ntmps25
  go_upto_region 1 with fail
  obtain ⟨g1, hB0, hsz⟩ := one_block w (.cells #[.bool false, .slice none 0 0, .slice none 0 0] 27)
  generalize w.alloc (.cells #[.bool false, .slice none 0 0, .slice none 0 0] 27) = W at *
  have HG := Lib.hid g1
  have HB0 := Lib.hid hB0
  have HS0 := Lib.hid (Nat.le_of_lt hsz)
  clear g1 hB0 hsz
  generalize hj : w.heap.size = j3 at *
  have HJ := Lib.hid hj
  clear hj
  go_wp2_with fail
  refine (OC.out _).mono ?_
  rintro e w1 ⟨v, rfl, hno, hb⟩
  obtain ⟨a4, c4, rfl⟩ := hno.slice
  have HN := Lib.hid hno
  have HB1 := Lib.hid (HB0.out.trans (hb.mono HS0.out))
  have HG1 := Lib.hid (block_of hb HG.out)
  have HS1 := Lib.hid (Nat.le_trans HS0.out hb.size)
  clear hno hb
  generalize hze : decide (n < 0) = bb at *
  have HZE := Lib.hid hze
  clear hze
  go_wp2_with fail
  refine (one_of_calls _).mono ?_
  rintro e w2 ⟨v, rfl, hno, hb⟩
  obtain ⟨a5, c5, rfl⟩ := hno.slice
  have HN2 := Lib.hid hno
  have HN1 := Lib.hid (HN.out.below hb)
  have HB2 := Lib.hid (HB1.out.trans (hb.mono HS1.out))
  have hgg := block_of hb HG1.out
  have HG2 := Lib.hid hgg
  have hf0 := frozen_of_row _ _ 0 _ _ hgg
  have hf1 := frozen_of_row _ _ 1 _ _ hgg
  have hf2 := frozen_of_row _ _ 2 _ _ hgg
  have hr0 := cell_of_row _ _ 0 _ _ (0, 0) hgg
  have hr1 := cell_of_row _ _ 1 _ _ (0, 0) hgg
  have hr2 := cell_of_row _ _ 2 _ _ (0, 0) hgg
  clear hno hb hgg
  go_wp2_with fail
  refine ret_row rfl _ _ j3 27 _ (0, 0) rfl (stored3 HG2.out _ _ _) und_Rat size_Rat ?_
  have hj := HJ.out
  subst hj
  obtain ⟨f1, f2⟩ := filled3 HB2.out (Nat.le_refl _) (.bool bb) (.slice a4 (Dg.db B64 n.natAbs).length c4) (.slice a5 (Dg.db B64 1).length c5)
  exact ⟨_, rfl, ⟨.slice a4 (Dg.db B64 n.natAbs).length c4, .slice a5 (Dg.db B64 1).length c5, by rw [HZE.out], f2 _ _ _ (heap_lt HG.out) HN1.out, f2 _ _ _ (heap_lt HG1.out) HN2.out⟩, f1⟩

end Go.Proofs.YthlpfhenaakljaaGreatDoor

namespace Go.Proofs.YthlpfhenaakljaaGreatDoor
open Go.RowKit

theorem other3 {w2 : World} {g k : Nat} {o : Obj} (h : w2.heap[k]? = some o) (hne : k ≠ g) (x y z : Value) : (((w2.setCell ⟨g, 0, none⟩ x).setCell ⟨g, 1, none⟩ y).setCell ⟨g, 2, none⟩ z).heap[k]? = some o := by
  rw [heap_setCell_other _ _ _ _ hne, heap_setCell_other _ _ _ _ hne, heap_setCell_other _ _ _ _ hne]; exact h

theorem kept3 {w2 : World} {g B : Nat} {v : Value} {xs : List Nat} (hn : No B w2 v xs) (hgB : g < B) (x y z : Value) : No B (((w2.setCell ⟨g, 0, none⟩ x).setCell ⟨g, 1, none⟩ y).setCell ⟨g, 2, none⟩ z) v xs := by
  have hne : v.ownBlock ≠ some g := fun h => by have := (hn.lt _ h).1; omega
  exact ((hn.kept (grownBy_setCell _ _ _ _) hne).kept (grownBy_setCell _ _ _ _) hne).kept (grownBy_setCell _ _ _ _) hne
theorem kept2 {w2 : World} {g B : Nat} {v : Value} {xs : List Nat} (hn : No B w2 v xs) (hgB : g < B) (x y : Value) : No B ((w2.setCell ⟨g, 0, none⟩ x).setCell ⟨g, 1, none⟩ y) v xs := by
  have hne : v.ownBlock ≠ some g := fun h => by have := (hn.lt _ h).1; omega
  exact (hn.kept (grownBy_setCell _ _ _ _) hne).kept (grownBy_setCell _ _ _ _) hne
theorem other2 {w2 : World} {g k : Nat} {o : Obj} (h : w2.heap[k]? = some o) (hne : k ≠ g) (x y : Value) : ((w2.setCell ⟨g, 0, none⟩ x).setCell ⟨g, 1, none⟩ y).heap[k]? = some o := by
  rw [heap_setCell_other _ _ _ _ hne, heap_setCell_other _ _ _ _ hne]; exact h
theorem below2 {w w2 : World} {g : Nat} (hb : Below w.heap.size w w2) (hg : w.heap.size ≤ g) (x y : Value) : Below w.heap.size w ((w2.setCell ⟨g, 0, none⟩ x).setCell ⟨g, 1, none⟩ y) := (hb.setCell hg _).setCell hg _

theorem sgn_flip (z : Int) : sgn (!decide (z < 0)) z.natAbs = -z := by
  unfold sgn
  by_cases h : z < 0 <;> simp [h] <;> omega

set_option maxHeartbeats 1600000 in
theorem rneg_calls (b : Bool) (m1 m2 : Value) (xs ys : List Nat) (w : World) (h1 : Nv w m1 xs) (h2 : Nv w m2 ys) (l1 : xs.length ≤ 549755813888) (l2 : ys.length ≤ 549755813888)
    (l3 : (Dg.db B64 (redZ b (Dg.dv B64 xs) (Dg.dv B64 ys)).natAbs).length ≤ 549755813888) :
    Calls Tryz.prog 11 #[.agg #[.bool b, m1, m2]] w (RetR (-redZ b (Dg.dv B64 xs) (Dg.dv B64 ys)) (redD (Dg.dv B64 xs) (Dg.dv B64 ys)) w) := by
  obtain ⟨_, a1, c1, rfl, _, _⟩ := id h1
  obtain ⟨_, a2, c2, rfl, _, _⟩ := id h2
  have CC := Lib.hid (fun wx (hb : Below w.heap.size w wx) => count_calls b _ _ xs ys wx (h1.below hb) (h2.below hb) l1 l2)
  clear h1 h2 l1 l2
  generalize redZ b (Dg.dv B64 xs) (Dg.dv B64 ys) = z at *
  generalize redD (Dg.dv B64 xs) (Dg.dv B64 ys) = d at *
  go_enter Tryz.func11, Tryz.ntmps11
  go_upto_region 1 with fail
  obtain ⟨g1, g2, hB0, hsz⟩ := two_blocks w (.cells #[.bool b, .slice a1 xs.length c1, .slice a2 ys.length c2] 27) (.cells #[.bool false, .slice none 0 0, .slice none 0 0] 27)
  generalize (w.alloc (.cells #[.bool b, .slice a1 xs.length c1, .slice a2 ys.length c2] 27)).alloc (.cells #[.bool false, .slice none 0 0, .slice none 0 0] 27) = W at *
  have HC := Lib.hid (CC.out _ hB0)
  have HG1 := Lib.hid g1
  have HG2 := Lib.hid g2
  have HB0 := Lib.hid hB0
  have HS0 := Lib.hid (show w.heap.size ≤ W.heap.size by omega)
  have hc0 := cell_of_row _ _ 0 _ _ (0, 0) g1
  have hc1 := cell_of_row _ _ 1 _ _ (0, 0) g1
  have hc2 := cell_of_row _ _ 2 _ _ (0, 0) g1
  have hge := Lib.hid (show w.heap.size ≤ w.heap.size + 1 by omega)
  have hne := Lib.hid (show w.heap.size + 1 ≠ w.heap.size by omega)
  clear g1 g2 hB0 hsz CC
  generalize w.heap.size + 1 = j3 at *
  generalize hj : w.heap.size = j1 at *
  have HJ := Lib.hid hj
  clear hj
  go_wp2_with fail
  refine HC.out.mono ?_
  rintro e w2 ⟨v, rfl, ⟨vn, vd, rfl, hn, hdn⟩, hb⟩
  obtain ⟨a5, c5, rfl⟩ := hn.slice
  obtain ⟨a6, c6, rfl⟩ := hdn.slice
  have HB2 := Lib.hid (HB0.out.trans (hb.mono HS0.out))
  have HS2 := Lib.hid (Nat.le_trans HS0.out hb.size)
  have hj1 := heap_lt HG1.out
  have hj3 := heap_lt HG2.out
  have HG1 := Lib.hid (block_of hb HG1.out)
  have HG2 := Lib.hid (block_of hb HG2.out)
  have hf0 := frozen_of_row _ _ 0 _ _ HG1.out
  have hf1 := frozen_of_row _ _ 1 _ _ HG1.out
  have hf2 := frozen_of_row _ _ 2 _ _ HG1.out
  have hr0 := cell_of_row _ _ 0 _ _ (0, 0) HG1.out
  have hr1 := cell_of_row _ _ 1 _ _ (0, 0) HG1.out
  have hr2 := cell_of_row _ _ 2 _ _ (0, 0) HG1.out
  have HN := Lib.hid hn
  have HDN := Lib.hid hdn
  have HJ1 := Lib.hid hj1
  have HJ3 := Lib.hid hj3
  clear hn hdn hb hc0 hc1 hc2 hj1 hj3
  generalize hze : decide (z < 0) = bb at *
  have HZE := Lib.hid hze
  clear hze
  go_wp2_with fail
  have k1 := stored3 HG1.out (.bool bb) (.slice a5 (Dg.db B64 z.natAbs).length c5) (.slice a6 (Dg.db B64 d).length c6)
  have k2 := other3 HG2.out hne.out (.bool bb) (.slice a5 (Dg.db B64 z.natAbs).length c5) (.slice a6 (Dg.db B64 d).length c6)
  obtain ⟨f1, f2⟩ := filled3 (w := w) (g := j1) (by rw [HJ.out]; exact HB2.out) (by rw [HJ.out]; exact Nat.le_refl _) (.bool bb) (.slice a5 (Dg.db B64 z.natAbs).length c5) (.slice a6 (Dg.db B64 d).length c6)
  have n1 := f2 _ _ _ HJ1.out HN.out
  have n2 := kept3 HDN.out HJ1.out (.bool bb) (.slice a5 (Dg.db B64 z.natAbs).length c5) (.slice a6 (Dg.db B64 d).length c6)
  clear f2 hf0 hf1 hf2 hr0 hr1 hr2
  generalize ((w2.setCell ⟨j1, 0, none⟩ (.bool bb)).setCell ⟨j1, 1, none⟩ (.slice a5 (Dg.db B64 z.natAbs).length c5)).setCell ⟨j1, 2, none⟩ (.slice a6 (Dg.db B64 d).length c6) = W3 at *
  refine (wneg_calls bb _ _ W3 n1.nv l3).mono ?_
  rw [Dg.dv_db (by decide), ← HZE.out, sgn_flip]
  rintro e w4 ⟨v, rfl, hn, hb⟩
  obtain ⟨a7, c7, rfl⟩ := hn.slice
  have HB4 := Lib.hid (f1.trans (hb.mono f1.size))
  have hgg1 := block_of hb k1
  have hgg2 := block_of hb k2
  have hjl1 := Lib.hid (heap_lt k1)
  have hjl3 := Lib.hid (heap_lt k2)
  have HG4 := Lib.hid hgg2
  have HN7 := Lib.hid hn
  have HD7 := Lib.hid (n2.below hb)
  have hf0 := frozen_of_row _ _ 0 _ _ hgg1
  have hf1 := frozen_of_row _ _ 1 _ _ hgg1
  have hr0 := cell_of_row _ _ 0 _ _ (0, 0) hgg1
  have hr1 := cell_of_row _ _ 1 _ _ (0, 0) hgg1
  have hr2 := cell_of_row _ _ 2 _ _ (0, 0) hgg1
  have hq0 := frozen_of_row _ _ 0 _ _ hgg2
  have hq1 := frozen_of_row _ _ 1 _ _ hgg2
  have hq2 := frozen_of_row _ _ 2 _ _ hgg2
  have hs0 := cell_of_row _ _ 0 _ _ (0, 0) hgg2
  have hs1 := cell_of_row _ _ 1 _ _ (0, 0) hgg2
  have hs2 := cell_of_row _ _ 2 _ _ (0, 0) hgg2
  have hne1 := hne.out
  have hne2 := Ne.symm hne1
  clear hn hb k1 k2 n1 n2 f1 hgg1 hgg2
  generalize hze2 : decide (-z < 0) = b3 at *
  have HZ2 := Lib.hid hze2
  clear hze2
  go_wp2_with fail
  have hn7 := HN7.out
  rw [Int.natAbs_neg] at hn7
  have hB4 : Below w.heap.size w w4 := HB4.out
  have hge' : w.heap.size ≤ j3 := by rw [HJ.out]; exact hge.out
  have hge1 : w.heap.size ≤ j1 := by rw [HJ.out]; exact Nat.le_refl _
  have hm7 := kept2 hn7 hjl1.out (.bool b3) (.slice a7 (Dg.db B64 z.natAbs).length c7)
  have hm6 := kept2 HD7.out HJ1.out (.bool b3) (.slice a7 (Dg.db B64 z.natAbs).length c7)
  have hBm := below2 hB4 hge1 (.bool b3) (.slice a7 (Dg.db B64 z.natAbs).length c7)
  have hgm := other2 HG4.out hne.out (.bool b3) (.slice a7 (Dg.db B64 z.natAbs).length c7)
  obtain ⟨f1, f2⟩ := filled3 hBm hge' (.bool b3) (.slice a7 (Dg.db B64 z.natAbs).length c7) (.slice a6 (Dg.db B64 d).length c6)
  refine ret_row rfl _ _ j3 27 _ (0, 0) rfl (stored3 hgm _ _ _) und_Rat size_Rat ?_
  refine ⟨_, rfl, ⟨.slice a7 (Dg.db B64 z.natAbs).length c7, .slice a6 (Dg.db B64 d).length c6, by rw [HZ2.out], ?_, f2 _ _ _ HJ3.out hm6⟩, f1⟩
  rw [Int.natAbs_neg]
  exact f2 _ _ _ hjl3.out hm7

end Go.Proofs.YthlpfhenaakljaaGreatDoor

namespace Go.Proofs.YthlpfhenaakljaaGreatDoor
open Go.RowKit

/-- Behind a, b = count(a), count(b): both boxes hold counted fractions of the call's own; the result's block is as it was made. -/
def TwoSt (w : World) (j1 j2 j3 : Nat) (z1 z2 : Int) (d1 d2 : Nat) (wx : World) : Prop :=
  ∃ a1 c1 a2 c2 a3 c3 a4 c4,
    wx.heap[j1]? = some (.cells #[.bool (decide (z1 < 0)), .slice a1 (Dg.db B64 z1.natAbs).length c1, .slice a2 (Dg.db B64 d1).length c2] 27 (0, 0)) ∧
    wx.heap[j2]? = some (.cells #[.bool (decide (z2 < 0)), .slice a3 (Dg.db B64 z2.natAbs).length c3, .slice a4 (Dg.db B64 d2).length c4] 27 (0, 0)) ∧
    wx.heap[j3]? = some (.cells #[.bool false, .slice none 0 0, .slice none 0 0] 27 (0, 0)) ∧
    No (j3 + 1) wx (.slice a1 (Dg.db B64 z1.natAbs).length c1) (Dg.db B64 z1.natAbs) ∧ No (j3 + 1) wx (.slice a2 (Dg.db B64 d1).length c2) (Dg.db B64 d1) ∧
    No (j3 + 1) wx (.slice a3 (Dg.db B64 z2.natAbs).length c3) (Dg.db B64 z2.natAbs) ∧ No (j3 + 1) wx (.slice a4 (Dg.db B64 d2).length c4) (Dg.db B64 d2) ∧
    Below w.heap.size w wx

theorem RR.parts {z : Int} {d B n5 n6 : Nat} {w : World} {bb : Bool} {a5 a6 : Option Addr} {c5 c6 : Nat} (h : RR z d B w (.agg #[.bool bb, .slice a5 n5 c5, .slice a6 n6 c6])) :
    bb = decide (z < 0) ∧ n5 = (Dg.db B64 z.natAbs).length ∧ n6 = (Dg.db B64 d).length ∧ No B w (.slice a5 (Dg.db B64 z.natAbs).length c5) (Dg.db B64 z.natAbs) ∧ No B w (.slice a6 (Dg.db B64 d).length c6) (Dg.db B64 d) := by
  obtain ⟨vn, vd, e, h1, h2⟩ := h
  simp at e
  obtain ⟨rfl, rfl, rfl⟩ := e
  obtain ⟨x1, y1, e1⟩ := h1.slice
  obtain ⟨x2, y2, e2⟩ := h2.slice
  simp only [Value.slice.injEq] at e1 e2
  obtain ⟨rfl, rfl, rfl⟩ := e1
  obtain ⟨rfl, rfl, rfl⟩ := e2
  exact ⟨rfl, rfl, rfl, h1, h2⟩

theorem two_fin {w wQ : World} {j1 j2 j3 BP BQ d1 d2 n5 n6 m5 m6 : Nat} {z1 z2 : Int} {u0 u1 u2 v0 v1 v2 : Value} {bP bQ : Bool} {a5 a6 e5 e6 : Option Addr} {c5 c6 f5 f6 : Nat}
    (h1 : wQ.heap[j1]? = some (.cells #[u0, u1, u2] 27 (0, 0))) (h2 : wQ.heap[j2]? = some (.cells #[v0, v1, v2] 27 (0, 0)))
    (h3 : wQ.heap[j3]? = some (.cells #[.bool false, .slice none 0 0, .slice none 0 0] 27 (0, 0))) (n12 : j1 ≠ j2) (n13 : j1 ≠ j3) (n23 : j2 ≠ j3)
    (hb : Below w.heap.size w wQ) (g1 : w.heap.size ≤ j1) (g2 : w.heap.size ≤ j2) (b1 : j1 ≤ j3) (b2 : j2 ≤ j3)
    (rP : RR z1 d1 BP wQ (.agg #[.bool bP, .slice a5 n5 c5, .slice a6 n6 c6])) (rQ : RR z2 d2 BQ wQ (.agg #[.bool bQ, .slice e5 m5 f5, .slice e6 m6 f6])) (hP : j3 < BP) (hQ : j3 < BQ) :
    TwoSt w j1 j2 j3 z1 z2 d1 d2 ((((((wQ.setCell ⟨j1, 0, none⟩ (.bool bP)).setCell ⟨j1, 1, none⟩ (.slice a5 n5 c5)).setCell ⟨j1, 2, none⟩ (.slice a6 n6 c6)).setCell ⟨j2, 0, none⟩ (.bool bQ)).setCell ⟨j2, 1, none⟩ (.slice e5 m5 f5)).setCell ⟨j2, 2, none⟩ (.slice e6 m6 f6)) := by
  obtain ⟨rfl, rfl, rfl, p1, p2⟩ := rP.parts
  obtain ⟨rfl, rfl, rfl, q1, q2⟩ := rQ.parts
  refine ⟨a5, c5, a6, c6, e5, f5, e6, f6, other3 (stored3 h1 _ _ _) n12 _ _ _, stored3 (other3 h2 n12.symm _ _ _) _ _ _, other3 (other3 h3 n13.symm _ _ _) n23.symm _ _ _, ?_, ?_, ?_, ?_,
    (filled3 (filled3 hb g1 _ _ _).1 g2 _ _ _).1⟩
  · exact (kept3 (kept3 p1 (by omega) _ _ _) (by omega) _ _ _).mono (by omega)
  · exact (kept3 (kept3 p2 (by omega) _ _ _) (by omega) _ _ _).mono (by omega)
  · exact (kept3 (kept3 q1 (by omega) _ _ _) (by omega) _ _ _).mono (by omega)
  · exact (kept3 (kept3 q2 (by omega) _ _ _) (by omega) _ _ _).mono (by omega)

end Go.Proofs.YthlpfhenaakljaaGreatDoor

namespace Go.Proofs.YthlpfhenaakljaaGreatDoor
open Go.RowKit

/-- A fraction by its value, in lowest terms. -/
def nrm (z : Int) (d : Nat) : Int := redZ (decide (z < 0)) z.natAbs d
def nrd (z : Int) (d : Nat) : Nat := redD z.natAbs d

theorem redZ_len (b : Bool) {xs : List Nat} (hx : Ws xs) (d : Nat) : (Dg.db B64 (redZ b (Dg.dv B64 xs) d).natAbs).length ≤ xs.length := by
  refine Dg.db_length (by decide) (Nat.lt_of_le_of_lt ?_ (Dg.dv_lt xs hx))
  unfold redZ
  split
  · simp
  · rw [sgn_abs]; exact Nat.div_le_self _ _
theorem redD_len (n : Nat) {ys : List Nat} (hy : Ws ys) : (Dg.db B64 (redD n (Dg.dv B64 ys))).length ≤ ys.length + 1 := by
  refine Dg.db_length (by decide) ?_
  have h := Dg.dv_lt ys hy
  have h2 : B64 ^ ys.length ≤ B64 ^ (ys.length + 1) := Nat.pow_le_pow_right (by decide) (by omega)
  have h3 : 1 < B64 ^ (ys.length + 1) := Nat.lt_of_lt_of_le (by decide : 1 < B64 ^ 1) (Nat.pow_le_pow_right (by decide) (by omega))
  unfold redD
  split
  · exact h3
  · exact Nat.lt_of_le_of_lt (Nat.div_le_self _ _) (by omega)
theorem redD_pos (n d : Nat) : redD n d ≠ 0 := by
  unfold redD
  split
  · decide
  · rename_i h
    have h1 : 0 < Nat.gcd n d := Nat.gcd_pos_of_pos_right _ (by omega)
    have h2 : Nat.gcd n d ≤ d := Nat.gcd_le_right _ (by omega)
    have := Nat.div_pos h2 h1
    omega

theorem redLens {w : World} {m1 m2 m3 m4 : Value} {xs ys us vs : List Nat} (b1 b2 : Bool) (h1 : Nv w m1 xs) (h2 : Nv w m2 ys) (h3 : Nv w m3 us) (h4 : Nv w m4 vs)
    (l1 : xs.length ≤ 34359738368) (l2 : ys.length ≤ 34359738368) (l3 : us.length ≤ 34359738368) (l4 : vs.length ≤ 34359738368) :
    (Dg.db B64 (redZ b1 (Dg.dv B64 xs) (Dg.dv B64 ys)).natAbs).length ≤ 34359738369 ∧ (Dg.db B64 (redD (Dg.dv B64 xs) (Dg.dv B64 ys))).length ≤ 34359738369 ∧
    (Dg.db B64 (redZ b2 (Dg.dv B64 us) (Dg.dv B64 vs)).natAbs).length ≤ 34359738369 ∧ (Dg.db B64 (redD (Dg.dv B64 us) (Dg.dv B64 vs))).length ≤ 34359738369 := by
  have e1 := redZ_len b1 h1.1 (Dg.dv B64 ys)
  have e2 := redD_len (Dg.dv B64 xs) h2.1
  have e3 := redZ_len b2 h3.1 (Dg.dv B64 vs)
  have e4 := redD_len (Dg.dv B64 us) h4.1
  omega

theorem redPos {w : World} {m1 m2 m3 m4 : Value} {xs ys us vs : List Nat} (_ _ : Bool) (_ : Nv w m1 xs) (_ : Nv w m2 ys) (_ : Nv w m3 us) (_ : Nv w m4 vs) :
    redD (Dg.dv B64 xs) (Dg.dv B64 ys) ≠ 0 ∧ redD (Dg.dv B64 us) (Dg.dv B64 vs) ≠ 0 := ⟨redD_pos _ _, redD_pos _ _⟩

/-- The three blocks as the second region finds them. -/
structure TwoAt (wc : World) (j1 j2 j3 : Nat) (s1 s2 : Bool) (A1 A2 A3 A4 : Value) (wx : World) : Prop where
  bel : Below wc.heap.size wc wx
  r1 : wx.heap[j1]? = some (.cells #[.bool s1, A1, A2] 27 (0, 0))
  r2 : wx.heap[j2]? = some (.cells #[.bool s2, A3, A4] 27 (0, 0))
  r3 : wx.heap[j3]? = some (.cells #[.bool false, .slice none 0 0, .slice none 0 0] 27 (0, 0))

theorem TwoAt.alloc {wc wx : World} {j1 j2 j3 : Nat} {s1 s2 : Bool} {A1 A2 A3 A4 : Value} (h : TwoAt wc j1 j2 j3 s1 s2 A1 A2 A3 A4 wx) (o : Obj) : TwoAt wc j1 j2 j3 s1 s2 A1 A2 A3 A4 (wx.alloc o) :=
  ⟨h.bel.alloc h.bel.size _, (heap_alloc_old _ _ (heap_lt h.r1)).trans h.r1, (heap_alloc_old _ _ (heap_lt h.r2)).trans h.r2, (heap_alloc_old _ _ (heap_lt h.r3)).trans h.r3⟩
theorem TwoAt.call {wc wx wy : World} {j1 j2 j3 : Nat} {s1 s2 : Bool} {A1 A2 A3 A4 : Value} (h : TwoAt wc j1 j2 j3 s1 s2 A1 A2 A3 A4 wx) (hb : Below wx.heap.size wx wy) : TwoAt wc j1 j2 j3 s1 s2 A1 A2 A3 A4 wy :=
  ⟨h.bel.trans (hb.mono h.bel.size), block_of hb h.r1, block_of hb h.r2, block_of hb h.r3⟩
theorem TwoAt.drew {wc wx : World} {j1 j2 j3 : Nat} {s1 s2 : Bool} {A1 A2 A3 A4 : Value} (h : TwoAt wc j1 j2 j3 s1 s2 A1 A2 A3 A4 wx) : TwoAt wc j1 j2 j3 s1 s2 A1 A2 A3 A4 wx.drew :=
  ⟨h.bel.drew, h.r1, h.r2, h.r3⟩
theorem Nv.alloc {w : World} {v : Value} {xs : List Nat} (h : Nv w v xs) (o : Obj) : Nv (w.alloc o) v xs := h.below ((Below.refl _ _).alloc (Nat.le_refl _) _)

/-- Behind the second region: what has been made lies at block k, the result's block is as it was made. -/
structure EndAt (w : World) (j3 k : Nat) (u v x : Value) (xs ys : List Nat) (G : World) : Prop where
  g : G.heap[k]? = some (.cells #[u, v, x] 27 (0, 0))
  r3 : G.heap[j3]? = some (.cells #[.bool false, .slice none 0 0, .slice none 0 0] 27 (0, 0))
  ne : j3 ≠ k
  bel : Below w.heap.size w G
  hn : No (j3 + 1) G v xs
  hd : No (j3 + 1) G x ys
  ge : w.heap.size ≤ j3

theorem endA {w wc w3 : World} {j1 j2 j3 B C : Nat} {s1 s2 : Bool} {A1 A2 A3 A4 u v x : Value} {xs ys : List Nat} (hb : Below w.heap.size w wc) (h : TwoAt wc j1 j2 j3 s1 s2 A1 A2 A3 A4 w3)
    (hn : No B w3 v xs) (hd : No C w3 x ys) (hB : j3 < B) (hC : j3 < C) (hg : w.heap.size ≤ j3) (hne : j3 ≠ w3.heap.size) : EndAt w j3 w3.heap.size u v x xs ys (w3.alloc (.cells #[u, v, x] 27)) := by
  have ha : Below w3.heap.size w3 (w3.alloc (.cells #[u, v, x] 27)) := (Below.refl _ _).alloc (Nat.le_refl _) _
  have hs : w.heap.size ≤ w3.heap.size := Nat.le_trans hb.size h.bel.size
  exact ⟨heap_alloc_new _ _, (heap_alloc_old _ _ (heap_lt h.r3)).trans h.r3, hne, (hb.trans (h.bel.mono hb.size)).trans (ha.mono hs), (hn.below ha).mono (by omega), (hd.below ha).mono (by omega), hg⟩

theorem endB {w wc w3 : World} {j1 j2 j3 k B C : Nat} {s1 s2 : Bool} {A1 A2 A3 A4 u v x a b c : Value} {xs ys : List Nat} (hb : Below w.heap.size w wc) (h : TwoAt wc j1 j2 j3 s1 s2 A1 A2 A3 A4 w3)
    (g : w3.heap[k]? = some (.cells #[a, b, c] 27 (0, 0))) (hk : w.heap.size ≤ k) (hj : j3 < k)
    (hn : No B w3 v xs) (hd : No C w3 x ys) (hB : k < B) (hC : k < C) (hg : w.heap.size ≤ j3) : EndAt w j3 k u v x xs ys (((w3.setCell ⟨k, 0, none⟩ u).setCell ⟨k, 1, none⟩ v).setCell ⟨k, 2, none⟩ x) := by
  have hs := hb.size
  exact ⟨stored3 g _ _ _, other3 h.r3 (by omega) _ _ _, by omega, (filled3 (hb.trans (h.bel.mono hb.size)) (by omega) _ _ _).1, (kept3 hn hB _ _ _).mono (by omega), (kept3 hd hC _ _ _).mono (by omega), hg⟩

theorem db_mul_len {m n p q : Nat} (h1 : (Dg.db B64 m).length ≤ p) (h2 : (Dg.db B64 n).length ≤ q) : (Dg.db B64 (m * n)).length ≤ p + q := by
  refine Dg.db_length (by decide) ?_
  have e1 := Dg.lt_pow_length (b := B64) (by decide) m
  have e2 := Dg.lt_pow_length (b := B64) (by decide) n
  have e3 : B64 ^ (Dg.db B64 m).length ≤ B64 ^ p := Nat.pow_le_pow_right (by decide) h1
  have e4 : B64 ^ (Dg.db B64 n).length ≤ B64 ^ q := Nat.pow_le_pow_right (by decide) h2
  rw [Nat.pow_add]
  exact Nat.mul_lt_mul'' (by omega) (by omega)

theorem rr_nrm {z : Int} {d : Nat} (hd : d ≠ 0) : sgn (decide (z < 0)) (z.natAbs / Nat.gcd z.natAbs d) = nrm z d ∧ d / Nat.gcd z.natAbs d = nrd z d := by
  unfold nrm nrd redZ redD
  rw [if_neg hd, if_neg hd]
  exact ⟨rfl, rfl⟩

theorem sgn_mul2 (a b : Bool) (m n : Nat) : sgn (a != b) (m * n) = sgn a m * sgn b n := by
  cases a <;> cases b <;> simp [sgn, Int.neg_mul, Int.mul_neg]
theorem sgn_mul (z1 z2 : Int) : sgn (decide (z1 < 0) != decide (z2 < 0)) (z1.natAbs * z2.natAbs) = z1 * z2 := by
  rw [sgn_mul2, sgn_of, sgn_of]

set_option maxHeartbeats 3200000 in
theorem rmul_calls (b1 b2 : Bool) (m1 m2 m3 m4 : Value) (xs ys us vs : List Nat) (z1 z2 : Int) (d1 d2 : Nat) (w : World) (h1 : Nv w m1 xs) (h2 : Nv w m2 ys) (h3 : Nv w m3 us) (h4 : Nv w m4 vs)
    (l1 : xs.length ≤ 34359738368) (l2 : ys.length ≤ 34359738368) (l3 : us.length ≤ 34359738368) (l4 : vs.length ≤ 34359738368)
    (hz1 : z1 = redZ b1 (Dg.dv B64 xs) (Dg.dv B64 ys)) (hd1 : d1 = redD (Dg.dv B64 xs) (Dg.dv B64 ys)) (hz2 : z2 = redZ b2 (Dg.dv B64 us) (Dg.dv B64 vs)) (hd2 : d2 = redD (Dg.dv B64 us) (Dg.dv B64 vs)) :
    Calls Tryz.prog 10 #[.agg #[.bool b1, m1, m2], .agg #[.bool b2, m3, m4]] w (RetR (nrm (z1 * z2) (d1 * d2)) (nrd (z1 * z2) (d1 * d2)) w) := by
  obtain ⟨_, a1, c1, rfl, _, _⟩ := id h1
  obtain ⟨_, a2, c2, rfl, _, _⟩ := id h2
  obtain ⟨_, a3, c3, rfl, _, _⟩ := id h3
  obtain ⟨_, a4, c4, rfl, _, _⟩ := id h4
  have HL := Lib.hid (redLens b1 b2 h1 h2 h3 h4 l1 l2 l3 l4)
  have HD12 := Lib.hid (redPos b1 b2 h1 h2 h3 h4)
  have C1 := Lib.hid (fun wx (hb : Below w.heap.size w wx) => count_calls b1 _ _ xs ys wx (h1.below hb) (h2.below hb) (by omega) (by omega))
  have C2 := Lib.hid (fun wx (hb : Below w.heap.size w wx) => count_calls b2 _ _ us vs wx (h3.below hb) (h4.below hb) (by omega) (by omega))
  rw [← hz1, ← hd1] at C1
  rw [← hz2, ← hd2] at C2
  rw [← hz1, ← hd1, ← hz2, ← hd2] at HL
  rw [← hd1, ← hd2] at HD12
  clear h1 h2 h3 h4 hz1 hz2 hd1 hd2
  generalize hZ : nrm (z1 * z2) (d1 * d2) = Z
  generalize hD : nrd (z1 * z2) (d1 * d2) = D
  have HZ := Lib.hid hZ
  have HD := Lib.hid hD
  clear hZ hD
  go_enter Tryz.func10, Tryz.ntmps10
  go_upto_region 1 with fail
  obtain ⟨g1, g2, g3, hB0, hsz⟩ := three_blocks w (.cells #[.bool b1, .slice a1 xs.length c1, .slice a2 ys.length c2] 27) (.cells #[.bool b2, .slice a3 us.length c3, .slice a4 vs.length c4] 27) (.cells #[.bool false, .slice none 0 0, .slice none 0 0] 27)
  generalize ((w.alloc (.cells #[.bool b1, .slice a1 xs.length c1, .slice a2 ys.length c2] 27)).alloc (.cells #[.bool b2, .slice a3 us.length c3, .slice a4 vs.length c4] 27)).alloc (.cells #[.bool false, .slice none 0 0, .slice none 0 0] 27) = W at *
  have q1 : W.drew.heap[w.heap.size]? = _ := g1
  have q2 : W.drew.heap[w.heap.size + 1]? = _ := g2
  have HQ3 := Lib.hid (show W.drew.heap[w.heap.size + 1 + 1]? = _ from g3)
  have x0 := cell_of_row _ _ 0 _ _ (0, 0) g1
  have x1 := cell_of_row _ _ 1 _ _ (0, 0) g1
  have x2 := cell_of_row _ _ 2 _ _ (0, 0) g1
  have y0 := cell_of_row _ _ 0 _ _ (0, 0) g2
  have y1 := cell_of_row _ _ 1 _ _ (0, 0) g2
  have y2 := cell_of_row _ _ 2 _ _ (0, 0) g2
  have hn1 : w.heap.size ≠ w.heap.size + 1 := by omega
  have hn2 : w.heap.size + 1 ≠ w.heap.size := by omega
  have HBX := Lib.hid hB0.drew
  have HSX := Lib.hid (show w.heap.size ≤ W.drew.heap.size by have : W.drew.heap.size = W.heap.size := rfl; omega)
  have HL3 := Lib.hid hsz
  have HN3 := Lib.hid (show w.heap.size ≤ w.heap.size + 1 ∧ w.heap.size + 1 ≠ w.heap.size + 1 + 1 ∧ w.heap.size ≠ w.heap.size + 1 + 1 ∧ w.heap.size ≤ w.heap.size + 1 + 1 ∧ w.heap.size + 1 ≤ w.heap.size + 1 + 1 by omega)
  clear g1 g2 g3 hB0 hsz
  generalize w.heap.size + 1 + 1 = j3 at *
  generalize w.heap.size + 1 = j2 at *
  generalize hj1 : w.heap.size = j1 at *
  have HJ1 := Lib.hid hj1
  clear hj1
  go_cut [] (fun wx => Hid (TwoSt w j1 j2 j3 z1 z2 d1 d2 wx))
  case rest =>
    clear q1 q2 HQ3 x0 x1 x2 y0 y1 y2 HBX HSX HL3 C1 C2
    have hj := HJ1.out
    obtain ⟨a1, c1, a2, c2, a3, c3, a4, c4, q1, q2, q3, p1, p2, p3, p4, hb⟩ := hcut.out
    clear hcut
    have CW := Lib.hid (fun wy (hb : TwoAt wc j1 j2 j3 (decide (z1 < 0)) (decide (z2 < 0)) (.slice a1 (Dg.db B64 z1.natAbs).length c1) (.slice a2 (Dg.db B64 d1).length c2) (.slice a3 (Dg.db B64 z2.natAbs).length c3) (.slice a4 (Dg.db B64 d2).length c4) wy) => wmul_int_calls (decide (z1 < 0)) (decide (z2 < 0)) _ _ _ _ wy (p1.nv.below hb.bel) (p3.nv.below hb.bel) (by have := HL.out; omega) (by have := HL.out; omega))
    rw [Dg.dv_db (by decide), Dg.dv_db (by decide), sgn_mul] at CW
    have CN := Lib.hid (fun wy (hb : TwoAt wc j1 j2 j3 (decide (z1 < 0)) (decide (z2 < 0)) (.slice a1 (Dg.db B64 z1.natAbs).length c1) (.slice a2 (Dg.db B64 d1).length c2) (.slice a3 (Dg.db B64 z2.natAbs).length c3) (.slice a4 (Dg.db B64 d2).length c4) wy) => mul_calls _ _ _ _ wy (p2.nv.below hb.bel) (p4.nv.below hb.bel) (by have := HL.out; omega) (by have := HL.out; omega))
    rw [Dg.dv_db (by decide), Dg.dv_db (by decide)] at CN
    have HLM := Lib.hid (show (Dg.db B64 (z1 * z2).natAbs).length ≤ 549755813888 by rw [Int.natAbs_mul]; exact Nat.le_trans (db_mul_len HL.out.1 HL.out.2.2.1) (by omega))
    have HLD := Lib.hid (show (Dg.db B64 (d1 * d2)).length ≤ 549755813888 from Nat.le_trans (db_mul_len HL.out.2.1 HL.out.2.2.2) (by omega))
    have HD0 := Lib.hid (Nat.mul_ne_zero HD12.out.1 HD12.out.2)
    have HST := Lib.hid (show TwoAt wc j1 j2 j3 (decide (z1 < 0)) (decide (z2 < 0)) (.slice a1 (Dg.db B64 z1.natAbs).length c1) (.slice a2 (Dg.db B64 d1).length c2) (.slice a3 (Dg.db B64 z2.natAbs).length c3) (.slice a4 (Dg.db B64 d2).length c4) wc from ⟨Below.refl _ _, q1, q2, q3⟩)
    have nw1 : j1 ≠ wc.heap.size := Nat.ne_of_lt (heap_lt q1)
    have nw2 : j2 ≠ wc.heap.size := Nat.ne_of_lt (heap_lt q2)
    have nw3 := Ne.symm nw1
    have nw4 := Ne.symm nw2
    have HSX := Lib.hid (Nat.le_refl wc.heap.size)
    have HBW := Lib.hid hb
    have HGE := Lib.hid (show w.heap.size ≤ j3 by rw [hj]; exact HN3.out.2.2.2.1)
    have HJ3 := Lib.hid (heap_lt q3)
    have x0 := cell_of_row _ _ 0 _ _ (0, 0) HST.out.r1
    have x1 := cell_of_row _ _ 1 _ _ (0, 0) HST.out.r1
    have x2 := cell_of_row _ _ 2 _ _ (0, 0) HST.out.r1
    have y0 := cell_of_row _ _ 0 _ _ (0, 0) HST.out.r2
    have y1 := cell_of_row _ _ 1 _ _ (0, 0) HST.out.r2
    have y2 := cell_of_row _ _ 2 _ _ (0, 0) HST.out.r2
    clear q1 q2 q3 p1 p2 p3 p4 hb hj
    generalize (Dg.db B64 z1.natAbs).length = n1 at *
    generalize (Dg.db B64 d1).length = n2 at *
    generalize (Dg.db B64 z2.natAbs).length = n3 at *
    generalize (Dg.db B64 d2).length = n4 at *
    generalize hs1 : decide (z1 < 0) = s1 at *
    generalize hs2 : decide (z2 < 0) = s2 at *
    have HS12 := Lib.hid (And.intro hs1 hs2)
    clear hs1 hs2
    go_upto_region 2 with fail
    go_cut [5] (fun v wx => Hid (∃ k a9 c9 aA cA, v = .pointer (some ⟨k, 0, none⟩) ∧ EndAt w j3 k (.bool (decide (Z < 0))) (.slice a9 (Dg.db B64 Z.natAbs).length c9) (.slice aA (Dg.db B64 D).length cA) (Dg.db B64 Z.natAbs) (Dg.db B64 D) wx))
    case rest =>
      obtain ⟨k, a9, c9, aA, cA, rfl, hE⟩ := hcut.out
      have HE := Lib.hid hE
      have e0 := frozen_of_row _ _ 0 _ _ hE.g
      have r0 := cell_of_row _ _ 0 _ _ (0, 0) hE.g
      have t0 := frozen_of_row _ _ 0 _ _ hE.r3
      have v0 := cell_of_row _ _ 0 _ _ (0, 0) hE.r3
      have e1 := frozen_of_row _ _ 1 _ _ hE.g
      have r1 := cell_of_row _ _ 1 _ _ (0, 0) hE.g
      have t1 := frozen_of_row _ _ 1 _ _ hE.r3
      have v1 := cell_of_row _ _ 1 _ _ (0, 0) hE.r3
      have e2 := frozen_of_row _ _ 2 _ _ hE.g
      have r2 := cell_of_row _ _ 2 _ _ (0, 0) hE.g
      have t2 := frozen_of_row _ _ 2 _ _ hE.r3
      have v2 := cell_of_row _ _ 2 _ _ (0, 0) hE.r3
      have n35 := hE.ne
      have n53 := Ne.symm n35
      clear hE hcut x0 x1 x2 y0 y1 y2
      go_wp2_with fail
      refine ret_row rfl _ _ j3 27 _ (0, 0) rfl (stored3 HE.out.r3 _ _ _) und_Rat size_Rat ?_
      exact ⟨_, rfl, ⟨_, _, rfl, (filled3 HE.out.bel HE.out.ge _ _ _).2 _ _ _ (Nat.lt_succ_self _) HE.out.hn, (filled3 HE.out.bel HE.out.ge _ _ _).2 _ _ _ (Nat.lt_succ_self _) HE.out.hd⟩, (filled3 HE.out.bel HE.out.ge _ _ _).1⟩
    go_region_held3 (fun w' => w'.cell? ⟨j1, 0, none⟩ = some (.bool s1) ∧ w'.cell? ⟨j1, 1, none⟩ = some (.slice a1 n1 c1) ∧ w'.cell? ⟨j1, 2, none⟩ = some (.slice a2 n2 c2) ∧ w'.cell? ⟨j2, 0, none⟩ = some (.bool s2) ∧ w'.cell? ⟨j2, 1, none⟩ = some (.slice a3 n3 c3) ∧ w'.cell? ⟨j2, 2, none⟩ = some (.slice a4 n4 c4)) (go_keep)
      (first
        | (go_at_call 36
           refine Calls.mono (CW.out _ (by first | exact HST.out | exact HST.out.drew | exact HST.out.alloc _ | exact (HST.out.alloc _).drew)) ?_
           rintro e w1 ⟨v, rfl, hno, hb⟩
           obtain ⟨a7, c7, rfl⟩ := hno.slice
           have HNW := Lib.hid hno.nv
           clear hno
           have HST := Lib.hid (TwoAt.call (by first | exact HST.out | exact HST.out.drew | exact HST.out.alloc _ | exact (HST.out.alloc _).drew) hb)
           first
             | (have g5 := block_of hb g5
                have HK8 := Lib.hid (Nat.lt_of_lt_of_le HK8.out hb.size))
             | (have g5 := block_of hb (heap_alloc_new wc _)
                have hj35 := HJ3.out
                have HK5 := Lib.hid (show j3 < wc.heap.size from Nat.lt_of_lt_of_le HJ3.out HSX.out)
                have n35 : j3 ≠ wc.heap.size := Nat.ne_of_lt HK5.out
                have n53 : wc.heap.size ≠ j3 := Ne.symm n35
                have n15 : j1 ≠ wc.heap.size := fun h => by have h1 := HK5.out; have h2 := HN3.out; omega
                have n51 : wc.heap.size ≠ j1 := Ne.symm n15
                have n25 : j2 ≠ wc.heap.size := fun h => by have h1 := HK5.out; have h2 := HN3.out; omega
                have n52 : wc.heap.size ≠ j2 := Ne.symm n25
                have HK6 := Lib.hid (show w.heap.size ≤ wc.heap.size from Nat.le_trans HBW.out.size HSX.out)
                have HKB := Lib.hid (show wc.heap.size < (wc.alloc (.cells #[.bool false, .slice none 0 0, .slice none 0 0] 27)).heap.size by simp)
                have HK8 := Lib.hid (Nat.lt_of_lt_of_le HKB.out hb.size)
                clear hj35
                generalize wc.heap.size = k5 at *)
             | skip
           have HSX := Lib.hid (show wc.heap.size ≤ w1.heap.size from HST.out.bel.size)
           have x0 := cell_of_row _ _ 0 _ _ (0, 0) HST.out.r1
           have x1 := cell_of_row _ _ 1 _ _ (0, 0) HST.out.r1
           have x2 := cell_of_row _ _ 2 _ _ (0, 0) HST.out.r1
           have y0 := cell_of_row _ _ 0 _ _ (0, 0) HST.out.r2
           have y1 := cell_of_row _ _ 1 _ _ (0, 0) HST.out.r2
           have y2 := cell_of_row _ _ 2 _ _ (0, 0) HST.out.r2
           clear hb)
        | (go_at_call 33
           refine Calls.mono (CN.out _ (by first | exact HST.out | exact HST.out.drew | exact HST.out.alloc _ | exact (HST.out.alloc _).drew)) ?_
           rintro e w2 ⟨v, rfl, hno, hb⟩
           obtain ⟨a8, c8, rfl⟩ := hno.slice
           have HNN := Lib.hid hno.nv
           clear hno
           have HNW := Lib.hid (Nv.below (by first | exact HNW.out | exact HNW.out.alloc _) hb)
           have HST := Lib.hid (TwoAt.call (by first | exact HST.out | exact HST.out.drew | exact HST.out.alloc _ | exact (HST.out.alloc _).drew) hb)
           first
             | (have g5 := block_of hb g5
                have HK8 := Lib.hid (Nat.lt_of_lt_of_le HK8.out hb.size))
             | (have g5 := block_of hb (heap_alloc_new w1 _)
                have hj35 := HJ3.out
                have HK5 := Lib.hid (show j3 < w1.heap.size from Nat.lt_of_lt_of_le HJ3.out HSX.out)
                have n35 : j3 ≠ w1.heap.size := Nat.ne_of_lt HK5.out
                have n53 : w1.heap.size ≠ j3 := Ne.symm n35
                have n15 : j1 ≠ w1.heap.size := fun h => by have h1 := HK5.out; have h2 := HN3.out; omega
                have n51 : w1.heap.size ≠ j1 := Ne.symm n15
                have n25 : j2 ≠ w1.heap.size := fun h => by have h1 := HK5.out; have h2 := HN3.out; omega
                have n52 : w1.heap.size ≠ j2 := Ne.symm n25
                have HK6 := Lib.hid (show w.heap.size ≤ w1.heap.size from Nat.le_trans HBW.out.size HSX.out)
                have HKB := Lib.hid (show w1.heap.size < (w1.alloc (.cells #[.bool false, .slice none 0 0, .slice none 0 0] 27)).heap.size by simp)
                have HK8 := Lib.hid (Nat.lt_of_lt_of_le HKB.out hb.size)
                clear hj35
                generalize w1.heap.size = k5 at *)
             | skip
           have HSX := Lib.hid (show wc.heap.size ≤ w2.heap.size from HST.out.bel.size)
           have x0 := cell_of_row _ _ 0 _ _ (0, 0) HST.out.r1
           have x1 := cell_of_row _ _ 1 _ _ (0, 0) HST.out.r1
           have x2 := cell_of_row _ _ 2 _ _ (0, 0) HST.out.r1
           have y0 := cell_of_row _ _ 0 _ _ (0, 0) HST.out.r2
           have y1 := cell_of_row _ _ 1 _ _ (0, 0) HST.out.r2
           have y2 := cell_of_row _ _ 2 _ _ (0, 0) HST.out.r2
           clear hb)
        | (go_at_call 23
           refine Calls.mono (rmake_calls _ _ _ _ _ _ (by first | exact HNW.out | exact HNW.out.drew | exact HNW.out.alloc _ | exact (Nv.alloc HNW.out _).drew) (by first | exact HNN.out | exact HNN.out.drew | exact HNN.out.alloc _ | exact (Nv.alloc HNN.out _).drew) HLM.out HLD.out) ?_
           rintro e w3 ⟨hb, _, hq⟩
           rw [Dg.dv_db (by decide), Dg.dv_db (by decide)] at hq
           obtain ⟨v, rfl, hr⟩ := hq HD0.out
           rw [(rr_nrm HD0.out).1, (rr_nrm HD0.out).2, HZ.out, HD.out] at hr
           obtain ⟨vn, vd, rfl, hn, hdn⟩ := hr
           obtain ⟨a9, c9, rfl⟩ := hn.slice
           obtain ⟨aA, cA, rfl⟩ := hdn.slice
           have HN := Lib.hid hn
           have HDN := Lib.hid hdn
           clear hq hn hdn
           have HS2 := Lib.hid (show wc.heap.size ≤ w2.heap.size from HSX.out)
           try have HKB := HK8
           have HST := Lib.hid (TwoAt.call (by first | exact HST.out | exact HST.out.drew | exact HST.out.alloc _ | exact (HST.out.alloc _).drew) hb)
           first
             | (have g5 := block_of hb g5
                have HK8 := Lib.hid (Nat.lt_of_lt_of_le HK8.out hb.size))
             | (have g5 := block_of hb (heap_alloc_new w2 _)
                have hj35 := HJ3.out
                have HK5 := Lib.hid (show j3 < w2.heap.size from Nat.lt_of_lt_of_le HJ3.out HSX.out)
                have n35 : j3 ≠ w2.heap.size := Nat.ne_of_lt HK5.out
                have n53 : w2.heap.size ≠ j3 := Ne.symm n35
                have n15 : j1 ≠ w2.heap.size := fun h => by have h1 := HK5.out; have h2 := HN3.out; omega
                have n51 : w2.heap.size ≠ j1 := Ne.symm n15
                have n25 : j2 ≠ w2.heap.size := fun h => by have h1 := HK5.out; have h2 := HN3.out; omega
                have n52 : w2.heap.size ≠ j2 := Ne.symm n25
                have HK6 := Lib.hid (show w.heap.size ≤ w2.heap.size from Nat.le_trans HBW.out.size HSX.out)
                have HKB := Lib.hid (show w2.heap.size < (w2.alloc (.cells #[.bool false, .slice none 0 0, .slice none 0 0] 27)).heap.size by simp)
                have HK8 := Lib.hid (Nat.lt_of_lt_of_le HKB.out hb.size)
                clear hj35
                generalize w2.heap.size = k5 at *)
             | (have g5 := heap_alloc_new w3 (.cells #[.bool false, .slice none 0 0, .slice none 0 0] 27)
                have HK5 := Lib.hid (show j3 < w3.heap.size from Nat.lt_of_lt_of_le HJ3.out HST.out.bel.size)
                have n35 : j3 ≠ w3.heap.size := Nat.ne_of_lt HK5.out
                have n53 : w3.heap.size ≠ j3 := Ne.symm n35
                have n15 : j1 ≠ w3.heap.size := fun h => by have h1 := HK5.out; have h2 := HN3.out; omega
                have n51 : w3.heap.size ≠ j1 := Ne.symm n15
                have n25 : j2 ≠ w3.heap.size := fun h => by have h1 := HK5.out; have h2 := HN3.out; omega
                have n52 : w3.heap.size ≠ j2 := Ne.symm n25
                have HK6 := Lib.hid (show w.heap.size ≤ w3.heap.size from Nat.le_trans HBW.out.size HST.out.bel.size)
                have HK7 := Lib.hid (show w3.heap.size = w3.heap.size from rfl))
           have e0 := frozen_of_row _ _ 0 _ _ g5
           have r0 := cell_of_row _ _ 0 _ _ (0, 0) g5
           have e1 := frozen_of_row _ _ 1 _ _ g5
           have r1 := cell_of_row _ _ 1 _ _ (0, 0) g5
           have e2 := frozen_of_row _ _ 2 _ _ g5
           have r2 := cell_of_row _ _ 2 _ _ (0, 0) g5
           have HSX := Lib.hid (show wc.heap.size ≤ w3.heap.size from HST.out.bel.size)
           have x0 := cell_of_row _ _ 0 _ _ (0, 0) HST.out.r1
           have x1 := cell_of_row _ _ 1 _ _ (0, 0) HST.out.r1
           have x2 := cell_of_row _ _ 2 _ _ (0, 0) HST.out.r1
           have y0 := cell_of_row _ _ 0 _ _ (0, 0) HST.out.r2
           have y1 := cell_of_row _ _ 1 _ _ (0, 0) HST.out.r2
           have y2 := cell_of_row _ _ 2 _ _ (0, 0) HST.out.r2
           clear hb))
    all_goals go_wp2_with fail
    all_goals go_meet
    all_goals first
      | exact Lib.hid ⟨_, _, _, _, _, rfl, endA HBW.out HST.out HN.out HDN.out (Nat.lt_of_lt_of_le HJ3.out HS2.out) (Nat.lt_of_lt_of_le HJ3.out HS2.out) HGE.out n35⟩
      | exact Lib.hid ⟨_, _, _, _, _, rfl, endB HBW.out HST.out g5 HK6.out HK5.out HN.out HDN.out HKB.out HKB.out HGE.out⟩
  go_region_with (first
    | (go_at_call_of 31 (Value.agg #[.bool b1, .slice a1 xs.length c1, .slice a2 ys.length c2])
       refine Calls.mono (C1.out _ HBX.out) ?_
       rintro e wP ⟨v, rfl, ⟨vn, vd, rfl, hn, hdn⟩, hbP⟩
       obtain ⟨a5P, c5P, rfl⟩ := hn.slice
       obtain ⟨a6P, c6P, rfl⟩ := hdn.slice
       have HNP := Lib.hid hn
       have HDP := Lib.hid hdn
       have HBX := Lib.hid (HBX.out.trans (hbP.mono HSX.out))
       have HSX := Lib.hid (Nat.le_trans HSX.out hbP.size)
       have q1 := block_of hbP q1
       have q2 := block_of hbP q2
       have HQ3 := Lib.hid (block_of hbP HQ3.out)
       have HBLP := Lib.hid hbP
       have x0 := cell_of_row _ _ 0 _ _ (0, 0) q1
       have x1 := cell_of_row _ _ 1 _ _ (0, 0) q1
       have x2 := cell_of_row _ _ 2 _ _ (0, 0) q1
       have y0 := cell_of_row _ _ 0 _ _ (0, 0) q2
       have y1 := cell_of_row _ _ 1 _ _ (0, 0) q2
       have y2 := cell_of_row _ _ 2 _ _ (0, 0) q2
       have f0 := frozen_of_row _ _ 0 _ _ q1
       have f1 := frozen_of_row _ _ 1 _ _ q1
       have f2 := frozen_of_row _ _ 2 _ _ q1
       have k0 := frozen_of_row _ _ 0 _ _ q2
       have k1 := frozen_of_row _ _ 1 _ _ q2
       have k2 := frozen_of_row _ _ 2 _ _ q2
       clear hn hdn hbP)
    | (go_at_call_of 31 (Value.agg #[.bool b2, .slice a3 us.length c3, .slice a4 vs.length c4])
       refine Calls.mono (C2.out _ HBX.out) ?_
       rintro e wQ ⟨v, rfl, ⟨vn, vd, rfl, hn, hdn⟩, hbQ⟩
       obtain ⟨a5Q, c5Q, rfl⟩ := hn.slice
       obtain ⟨a6Q, c6Q, rfl⟩ := hdn.slice
       have HNQ := Lib.hid hn
       have HDQ := Lib.hid hdn
       have HBX := Lib.hid (HBX.out.trans (hbQ.mono HSX.out))
       have HSX := Lib.hid (Nat.le_trans HSX.out hbQ.size)
       have q1 := block_of hbQ q1
       have q2 := block_of hbQ q2
       have HQ3 := Lib.hid (block_of hbQ HQ3.out)
       have HBLQ := Lib.hid hbQ
       have x0 := cell_of_row _ _ 0 _ _ (0, 0) q1
       have x1 := cell_of_row _ _ 1 _ _ (0, 0) q1
       have x2 := cell_of_row _ _ 2 _ _ (0, 0) q1
       have y0 := cell_of_row _ _ 0 _ _ (0, 0) q2
       have y1 := cell_of_row _ _ 1 _ _ (0, 0) q2
       have y2 := cell_of_row _ _ 2 _ _ (0, 0) q2
       have f0 := frozen_of_row _ _ 0 _ _ q1
       have f1 := frozen_of_row _ _ 1 _ _ q1
       have f2 := frozen_of_row _ _ 2 _ _ q1
       have k0 := frozen_of_row _ _ 0 _ _ q2
       have k1 := frozen_of_row _ _ 1 _ _ q2
       have k2 := frozen_of_row _ _ 2 _ _ q2
       clear hn hdn hbQ))
  all_goals go_wp2_with fail
  all_goals go_meet
  all_goals
    have hj := HJ1.out
    subst hj
    refine Lib.hid (two_fin q1 q2 HQ3.out hn1 HN3.out.2.2.1 HN3.out.2.1 HBX.out (Nat.le_refl _) HN3.out.1 HN3.out.2.2.2.1 HN3.out.2.2.2.2 (BP := W.drew.heap.size) (BQ := wP.drew.heap.size) ⟨_, _, rfl, HNP.out.below HBLQ.out, HDP.out.below HBLQ.out⟩ ⟨_, _, rfl, HNQ.out, HDQ.out⟩ HL3.out ?_)
    exact Nat.lt_of_lt_of_le HL3.out HBLP.out.size

end Go.Proofs.YthlpfhenaakljaaGreatDoor

namespace Go.Proofs.YthlpfhenaakljaaGreatDoor
open Go.RowKit

/-- The ways of a sum, as they lie. -/
def wayCells : Array Value := #[.func (.func 96) #[] #[], .func (.func 97) #[] #[], .func (.func 98) #[] #[], .func (.func 99) #[] #[], .func (.func 101) #[] #[], .func (.func 102) #[] #[]]

set_option maxHeartbeats 800000 in
theorem ways_calls (w : World) : Calls Tryz.prog 62 #[] w fun e w' => e = .returned (.slice (some ⟨w.heap.size, 0, none⟩) 3 3) ∧ w' = w.alloc (.cells wayCells 82) := by
  go_enter Tryz.func62, Tryz.ntmps62
  go_wp2_with fail
  go_ret
  exact ⟨rfl, rfl⟩

/-- A sign and a natural of the call's own are told. -/
def RetBN (b : Bool) (R : List Nat) (w : World) (e : Ending) (w' : World) : Prop := ∃ v, e = .returned (.tuple #[.bool b, v]) ∧ No w.heap.size w' v R ∧ Below w.heap.size w w'

set_option maxHeartbeats 1600000 in
theorem way1_calls (b1 b2 : Bool) (m1 m2 : Value) (xs ys : List Nat) (w : World) (h1 : Nv w m1 xs) (h2 : Nv w m2 ys) (_l1 : xs.length ≤ 549755813888) (_l2 : ys.length ≤ 549755813888) :
    Calls Tryz.prog 96 #[.agg #[.bool b1, m1], .agg #[.bool b2, m2]] w (fun e w' => e = .returned (.bool (b1 == b2)) ∧ Below w.heap.size w w') := by
  obtain ⟨_, a1, c1, rfl, _, _⟩ := id h1
  obtain ⟨_, a2, c2, rfl, _, _⟩ := id h2
  go_enter Tryz.func96, Tryz.ntmps96
  go_upto_region 1 with fail
  obtain ⟨g1, g2, hB0, hsz⟩ := two_blocks w (.cells #[.bool b1, .slice a1 xs.length c1] 25) (.cells #[.bool b2, .slice a2 ys.length c2] 25)
  generalize (w.alloc (.cells #[.bool b1, .slice a1 xs.length c1] 25)).alloc (.cells #[.bool b2, .slice a2 ys.length c2] 25) = W at *
  have HB0 := Lib.hid hB0
  have HS0 := Lib.hid (show w.heap.size ≤ W.heap.size by omega)
  have hc1 : W.cell? ⟨w.heap.size, 0, none⟩ = some (.bool b1) := cell_of_row W _ 0 _ _ (0, 0) g1
  have hc2 : W.cell? ⟨w.heap.size, 1, none⟩ = some (.slice a1 xs.length c1) := cell_of_row W _ 1 _ _ (0, 0) g1
  have hc3 : W.cell? ⟨w.heap.size + 1, 0, none⟩ = some (.bool b2) := cell_of_row W _ 0 _ _ (0, 0) g2
  have hc4 : W.cell? ⟨w.heap.size + 1, 1, none⟩ = some (.slice a2 ys.length c2) := cell_of_row W _ 1 _ _ (0, 0) g2
  clear g1 g2 hB0 hsz h1 h2
  go_wp2_with fail
  go_ret
  exact ⟨rfl, HB0.out⟩

set_option maxHeartbeats 1600000 in
theorem way3_calls (b1 b2 : Bool) (m1 m2 : Value) (xs ys : List Nat) (w : World) (h1 : Nv w m1 xs) (h2 : Nv w m2 ys) (l1 : xs.length ≤ 549755813888) (l2 : ys.length ≤ 549755813888) :
    Calls Tryz.prog 98 #[.agg #[.bool b1, m1], .agg #[.bool b2, m2]] w (fun e w' => e = .returned (.bool (decide (Dg.dv B64 ys ≤ Dg.dv B64 xs))) ∧ Below w.heap.size w w') := by
  rw [show decide (Dg.dv B64 ys ≤ Dg.dv B64 xs) = decide (Dg.cmpZ (Dg.dv B64 xs) (Dg.dv B64 ys) ≥ 0) from by rw [Bool.eq_iff_iff]; simp only [decide_eq_true_eq, ge_iff_le]; exact Dg.cmpZ_nonneg.symm]
  obtain ⟨_, a1, c1, rfl, _, _⟩ := id h1
  obtain ⟨_, a2, c2, rfl, _, _⟩ := id h2
  go_enter Tryz.func98, Tryz.ntmps98
  go_upto_region 1 with fail
  obtain ⟨g1, g2, hB0, hsz⟩ := two_blocks w (.cells #[.bool b1, .slice a1 xs.length c1] 25) (.cells #[.bool b2, .slice a2 ys.length c2] 25)
  generalize (w.alloc (.cells #[.bool b1, .slice a1 xs.length c1] 25)).alloc (.cells #[.bool b2, .slice a2 ys.length c2] 25) = W at *
  have HB0 := Lib.hid hB0
  have HS0 := Lib.hid (show w.heap.size ≤ W.heap.size by omega)
  have hc1 : W.cell? ⟨w.heap.size, 0, none⟩ = some (.bool b1) := cell_of_row W _ 0 _ _ (0, 0) g1
  have hc2 : W.cell? ⟨w.heap.size, 1, none⟩ = some (.slice a1 xs.length c1) := cell_of_row W _ 1 _ _ (0, 0) g1
  have hc3 : W.cell? ⟨w.heap.size + 1, 0, none⟩ = some (.bool b2) := cell_of_row W _ 0 _ _ (0, 0) g2
  have hc4 : W.cell? ⟨w.heap.size + 1, 1, none⟩ = some (.slice a2 ys.length c2) := cell_of_row W _ 1 _ _ (0, 0) g2
  have HM := Lib.hid (cmp_calls _ _ xs ys W (h1.below hB0) (h2.below hB0) (by omega) (by omega))
  clear g1 g2 hB0 hsz h1 h2
  go_wp2_with fail
  refine HM.out.mono ?_
  rintro e w2 ⟨rfl, rfl⟩
  go_wp2_with fail
  go_ret
  exact ⟨rfl, HB0.out⟩

set_option maxHeartbeats 1600000 in
theorem way5_calls (b1 b2 : Bool) (m1 m2 : Value) (xs ys : List Nat) (w : World) (h1 : Nv w m1 xs) (h2 : Nv w m2 ys) (_l1 : xs.length ≤ 549755813888) (_l2 : ys.length ≤ 549755813888) :
    Calls Tryz.prog 101 #[.agg #[.bool b1, m1], .agg #[.bool b2, m2]] w (fun e w' => e = .returned (.bool (true)) ∧ Below w.heap.size w w') := by
  obtain ⟨_, a1, c1, rfl, _, _⟩ := id h1
  obtain ⟨_, a2, c2, rfl, _, _⟩ := id h2
  go_enter Tryz.func101, Tryz.ntmps101
  go_upto_region 1 with fail
  obtain ⟨g1, g2, hB0, hsz⟩ := two_blocks w (.cells #[.bool b1, .slice a1 xs.length c1] 25) (.cells #[.bool b2, .slice a2 ys.length c2] 25)
  generalize (w.alloc (.cells #[.bool b1, .slice a1 xs.length c1] 25)).alloc (.cells #[.bool b2, .slice a2 ys.length c2] 25) = W at *
  have HB0 := Lib.hid hB0
  have HS0 := Lib.hid (show w.heap.size ≤ W.heap.size by omega)
  have hc1 : W.cell? ⟨w.heap.size, 0, none⟩ = some (.bool b1) := cell_of_row W _ 0 _ _ (0, 0) g1
  have hc2 : W.cell? ⟨w.heap.size, 1, none⟩ = some (.slice a1 xs.length c1) := cell_of_row W _ 1 _ _ (0, 0) g1
  have hc3 : W.cell? ⟨w.heap.size + 1, 0, none⟩ = some (.bool b2) := cell_of_row W _ 0 _ _ (0, 0) g2
  have hc4 : W.cell? ⟨w.heap.size + 1, 1, none⟩ = some (.slice a2 ys.length c2) := cell_of_row W _ 1 _ _ (0, 0) g2
  clear g1 g2 hB0 hsz h1 h2
  go_wp2_with fail
  go_ret
  exact ⟨rfl, HB0.out⟩

set_option maxHeartbeats 1600000 in
theorem way4_calls (b1 b2 : Bool) (m1 m2 : Value) (xs ys : List Nat) (w : World) (h1 : Nv w m1 xs) (h2 : Nv w m2 ys) (l1 : xs.length ≤ 549755813888) (l2 : ys.length ≤ 549755813888) (hle : Dg.dv B64 ys ≤ Dg.dv B64 xs) :
    Calls Tryz.prog 99 #[.agg #[.bool b1, m1], .agg #[.bool b2, m2]] w (RetBN b1 (Dg.db B64 (Dg.dv B64 xs - Dg.dv B64 ys)) w) := by
  obtain ⟨_, a1, c1, rfl, _, _⟩ := id h1
  obtain ⟨_, a2, c2, rfl, _, _⟩ := id h2
  go_enter Tryz.func99, Tryz.ntmps99
  go_upto_region 1 with fail
  obtain ⟨g1, g2, hB0, hsz⟩ := two_blocks w (.cells #[.bool b1, .slice a1 xs.length c1] 25) (.cells #[.bool b2, .slice a2 ys.length c2] 25)
  generalize (w.alloc (.cells #[.bool b1, .slice a1 xs.length c1] 25)).alloc (.cells #[.bool b2, .slice a2 ys.length c2] 25) = W at *
  have HB0 := Lib.hid hB0
  have HS0 := Lib.hid (show w.heap.size ≤ W.heap.size by omega)
  have hc1 : W.cell? ⟨w.heap.size, 0, none⟩ = some (.bool b1) := cell_of_row W _ 0 _ _ (0, 0) g1
  have hc2 : W.cell? ⟨w.heap.size, 1, none⟩ = some (.slice a1 xs.length c1) := cell_of_row W _ 1 _ _ (0, 0) g1
  have hc3 : W.cell? ⟨w.heap.size + 1, 0, none⟩ = some (.bool b2) := cell_of_row W _ 0 _ _ (0, 0) g2
  have hc4 : W.cell? ⟨w.heap.size + 1, 1, none⟩ = some (.slice a2 ys.length c2) := cell_of_row W _ 1 _ _ (0, 0) g2
  have HM := Lib.hid (sub_calls _ _ xs ys W (h1.below hB0) (h2.below hB0) (by omega) (by omega))
  have HLE := Lib.hid hle
  clear hle
  clear g1 g2 hB0 hsz h1 h2
  generalize w.heap.size + 1 = j2 at *
  generalize hj1 : w.heap.size = j1 at *
  have HJ := Lib.hid hj1
  clear hj1
  go_wp2_with fail
  refine HM.out.mono ?_
  rintro e w2 hq
  obtain ⟨v, rfl, hno, hb⟩ := hq.1 HLE.out
  obtain ⟨a3, c3, rfl⟩ := hno.slice
  have HN := Lib.hid hno
  have HB2 := Lib.hid (HB0.out.trans (hb.mono HS0.out))
  have hd1 := block_of_cell hb hc1
  have hd2 := block_of_cell hb hc2
  have hd3 := block_of_cell hb hc3
  have hd4 := block_of_cell hb hc4
  clear hc1 hc2 hc3 hc4 hno hb hq
  go_wp2_with fail
  go_ret2
  have hj := HJ.out
  subst hj
  exact ⟨_, rfl, HN.out.mono HS0.out, HB2.out⟩

set_option maxHeartbeats 1600000 in
theorem way6_calls (b1 b2 : Bool) (m1 m2 : Value) (xs ys : List Nat) (w : World) (h1 : Nv w m1 xs) (h2 : Nv w m2 ys) (l1 : xs.length ≤ 549755813888) (l2 : ys.length ≤ 549755813888) (hle : Dg.dv B64 xs ≤ Dg.dv B64 ys) :
    Calls Tryz.prog 102 #[.agg #[.bool b1, m1], .agg #[.bool b2, m2]] w (RetBN b2 (Dg.db B64 (Dg.dv B64 ys - Dg.dv B64 xs)) w) := by
  obtain ⟨_, a1, c1, rfl, _, _⟩ := id h1
  obtain ⟨_, a2, c2, rfl, _, _⟩ := id h2
  go_enter Tryz.func102, Tryz.ntmps102
  go_upto_region 1 with fail
  obtain ⟨g1, g2, hB0, hsz⟩ := two_blocks w (.cells #[.bool b1, .slice a1 xs.length c1] 25) (.cells #[.bool b2, .slice a2 ys.length c2] 25)
  generalize (w.alloc (.cells #[.bool b1, .slice a1 xs.length c1] 25)).alloc (.cells #[.bool b2, .slice a2 ys.length c2] 25) = W at *
  have HB0 := Lib.hid hB0
  have HS0 := Lib.hid (show w.heap.size ≤ W.heap.size by omega)
  have hc1 : W.cell? ⟨w.heap.size, 0, none⟩ = some (.bool b1) := cell_of_row W _ 0 _ _ (0, 0) g1
  have hc2 : W.cell? ⟨w.heap.size, 1, none⟩ = some (.slice a1 xs.length c1) := cell_of_row W _ 1 _ _ (0, 0) g1
  have hc3 : W.cell? ⟨w.heap.size + 1, 0, none⟩ = some (.bool b2) := cell_of_row W _ 0 _ _ (0, 0) g2
  have hc4 : W.cell? ⟨w.heap.size + 1, 1, none⟩ = some (.slice a2 ys.length c2) := cell_of_row W _ 1 _ _ (0, 0) g2
  have HM := Lib.hid (sub_calls _ _ ys xs W (h2.below hB0) (h1.below hB0) (by omega) (by omega))
  have HLE := Lib.hid hle
  clear hle
  clear g1 g2 hB0 hsz h1 h2
  generalize w.heap.size + 1 = j2 at *
  generalize hj1 : w.heap.size = j1 at *
  have HJ := Lib.hid hj1
  clear hj1
  go_wp2_with fail
  refine HM.out.mono ?_
  rintro e w2 hq
  obtain ⟨v, rfl, hno, hb⟩ := hq.1 HLE.out
  obtain ⟨a3, c3, rfl⟩ := hno.slice
  have HN := Lib.hid hno
  have HB2 := Lib.hid (HB0.out.trans (hb.mono HS0.out))
  have hd1 := block_of_cell hb hc1
  have hd2 := block_of_cell hb hc2
  have hd3 := block_of_cell hb hc3
  have hd4 := block_of_cell hb hc4
  clear hc1 hc2 hc3 hc4 hno hb hq
  go_wp2_with fail
  go_ret2
  have hj := HJ.out
  subst hj
  exact ⟨_, rfl, HN.out.mono HS0.out, HB2.out⟩

set_option maxHeartbeats 1600000 in
theorem way2_calls (b1 b2 : Bool) (m1 m2 : Value) (xs ys : List Nat) (w : World) (h1 : Nv w m1 xs) (h2 : Nv w m2 ys) (l1 : xs.length ≤ 549755813888) (l2 : ys.length ≤ 549755813888) :
    Calls Tryz.prog 97 #[.agg #[.bool b1, m1], .agg #[.bool b2, m2]] w (RetBN b1 (Dg.db B64 (Dg.dv B64 xs + Dg.dv B64 ys)) w) := by
  obtain ⟨_, a1, c1, rfl, _, _⟩ := id h1
  obtain ⟨_, a2, c2, rfl, _, _⟩ := id h2
  go_enter Tryz.func97, Tryz.ntmps97
  go_upto_region 1 with fail
  obtain ⟨g1, g2, hB0, hsz⟩ := two_blocks w (.cells #[.bool b1, .slice a1 xs.length c1] 25) (.cells #[.bool b2, .slice a2 ys.length c2] 25)
  generalize (w.alloc (.cells #[.bool b1, .slice a1 xs.length c1] 25)).alloc (.cells #[.bool b2, .slice a2 ys.length c2] 25) = W at *
  have HB0 := Lib.hid hB0
  have HS0 := Lib.hid (show w.heap.size ≤ W.heap.size by omega)
  have hc1 : W.cell? ⟨w.heap.size, 0, none⟩ = some (.bool b1) := cell_of_row W _ 0 _ _ (0, 0) g1
  have hc2 : W.cell? ⟨w.heap.size, 1, none⟩ = some (.slice a1 xs.length c1) := cell_of_row W _ 1 _ _ (0, 0) g1
  have hc3 : W.cell? ⟨w.heap.size + 1, 0, none⟩ = some (.bool b2) := cell_of_row W _ 0 _ _ (0, 0) g2
  have hc4 : W.cell? ⟨w.heap.size + 1, 1, none⟩ = some (.slice a2 ys.length c2) := cell_of_row W _ 1 _ _ (0, 0) g2
  have HM := Lib.hid (add_calls _ _ xs ys W.drew ((h1.below hB0).below (Below.refl _ _).drew) ((h2.below hB0).below (Below.refl _ _).drew) (by omega) (by omega))
  clear g1 g2 hB0 hsz h1 h2
  generalize w.heap.size + 1 = j2 at *
  generalize hj1 : w.heap.size = j1 at *
  have HJ := Lib.hid hj1
  clear hj1
  go_region_held3 (fun w' => w'.cell? ⟨j1, 0, none⟩ = some (.bool b1) ∧ w'.cell? ⟨j1, 1, none⟩ = some (.slice a1 xs.length c1) ∧ w'.cell? ⟨j2, 1, none⟩ = some (.slice a2 ys.length c2)) (go_keep)
    (first
      | (go_at_call 84
         refine HM.out.mono ?_
         rintro e w2 ⟨v, rfl, hno, hb⟩
         obtain ⟨a3, c3, rfl⟩ := hno.slice
         have HN := Lib.hid hno
         have HB2 := Lib.hid (HB0.out.drew.trans (hb.mono HS0.out))
         have hd1 := block_of_cell hb hc1
         have hd2 := block_of_cell hb hc2
         have hd3 := block_of_cell hb hc3
         have hd4 := block_of_cell hb hc4
         clear hno hb))
  go_wp2_with fail
  go_ret2
  have hj := HJ.out
  subst hj
  exact ⟨_, rfl, HN.out.mono HS0.out, HB2.out⟩

end Go.Proofs.YthlpfhenaakljaaGreatDoor

namespace Go.Proofs.YthlpfhenaakljaaGreatDoor
open Go.RowKit

/-- The blocks of whole.Add: both boxes, the result's, the ways. -/
structure AddSt (w : World) (j1 j2 j3 g : Nat) (c1 c2 : Array Value) (wx : World) : Prop where
  bel : Below w.heap.size w wx
  r1 : wx.heap[j1]? = some (.cells c1 25 (0, 0))
  r2 : wx.heap[j2]? = some (.cells c2 25 (0, 0))
  r3 : wx.heap[j3]? = some (.cells #[.bool false, .slice none 0 0] 25 (0, 0))
  rg : wx.heap[g]? = some (.cells wayCells 82 (0, 0))

theorem AddSt.alloc {w wx : World} {j1 j2 j3 g : Nat} {c1 c2 : Array Value} (h : AddSt w j1 j2 j3 g c1 c2 wx) (o : Obj) : AddSt w j1 j2 j3 g c1 c2 (wx.alloc o) :=
  ⟨h.bel.alloc h.bel.size _, (heap_alloc_old _ _ (heap_lt h.r1)).trans h.r1, (heap_alloc_old _ _ (heap_lt h.r2)).trans h.r2, (heap_alloc_old _ _ (heap_lt h.r3)).trans h.r3, (heap_alloc_old _ _ (heap_lt h.rg)).trans h.rg⟩
theorem AddSt.call {w wx wy : World} {j1 j2 j3 g : Nat} {c1 c2 : Array Value} (h : AddSt w j1 j2 j3 g c1 c2 wx) (hb : Below wx.heap.size wx wy) : AddSt w j1 j2 j3 g c1 c2 wy :=
  ⟨h.bel.trans (hb.mono h.bel.size), block_of hb h.r1, block_of hb h.r2, block_of hb h.r3, block_of hb h.rg⟩

/-- Nothing older has been turned. -/
def Bel (w wx : World) : Prop := Below w.heap.size w wx

theorem sum_same (b : Bool) (X Y : Nat) : sgn b X + sgn b Y = sgn b (X + Y) := by
  unfold sgn; cases b <;> simp <;> omega
theorem sum_ge {b1 b2 : Bool} {X Y : Nat} (hb : (b1 == b2) = false) (h : Y ≤ X) : sgn b1 X + sgn b2 Y = sgn b1 (X - Y) := by
  unfold sgn; cases b1 <;> cases b2 <;> simp at hb ⊢ <;> omega
theorem sum_lt {b1 b2 : Bool} {X Y : Nat} (hb : (b1 == b2) = false) (h : X ≤ Y) : sgn b1 X + sgn b2 Y = sgn b2 (Y - X) := by
  unfold sgn; cases b1 <;> cases b2 <;> simp at hb ⊢ <;> omega

theorem db_add_len {m n p : Nat} (h1 : (Dg.db B64 m).length ≤ p) (h2 : (Dg.db B64 n).length ≤ p) : (Dg.db B64 (m + n)).length ≤ p + 1 := by
  refine Dg.db_length (by decide) ?_
  have e1 := Dg.lt_pow_length (b := B64) (by decide) m
  have e2 := Dg.lt_pow_length (b := B64) (by decide) n
  have e3 : B64 ^ (Dg.db B64 m).length ≤ B64 ^ p := Nat.pow_le_pow_right (by decide) h1
  have e4 : B64 ^ (Dg.db B64 n).length ≤ B64 ^ p := Nat.pow_le_pow_right (by decide) h2
  rw [Nat.pow_succ]
  have : B64 ^ p * 2 ≤ B64 ^ p * B64 := Nat.mul_le_mul_left _ (by decide)
  omega

set_option maxHeartbeats 3200000 in
theorem wadd_int_calls (b1 b2 : Bool) (m1 m2 : Value) (xs ys : List Nat) (w : World) (h1 : Nv w m1 xs) (h2 : Nv w m2 ys) (l1 : xs.length ≤ 274877906944) (l2 : ys.length ≤ 274877906944) :
    Calls Tryz.prog 34 #[.agg #[.bool b1, m1], .agg #[.bool b2, m2]] w (RetI (sgn b1 (Dg.dv B64 xs) + sgn b2 (Dg.dv B64 ys)) w) := by
  obtain ⟨_, a1, c1, rfl, _, _⟩ := id h1
  obtain ⟨_, a2, c2, rfl, _, _⟩ := id h2
  have W1 := Lib.hid (fun wx (hb : Bel w wx) => way1_calls b1 b2 _ _ xs ys wx (h1.below hb) (h2.below hb) (by omega) (by omega))
  have W2 := Lib.hid (fun wx (hb : Bel w wx) => way2_calls b1 b2 _ _ xs ys wx (h1.below hb) (h2.below hb) (by omega) (by omega))
  have W3 := Lib.hid (fun wx (hb : Bel w wx) => way3_calls b1 b2 _ _ xs ys wx (h1.below hb) (h2.below hb) (by omega) (by omega))
  have W4 := Lib.hid (fun wx (hb : Bel w wx) => way4_calls b1 b2 _ _ xs ys wx (h1.below hb) (h2.below hb) (by omega) (by omega))
  have W5 := Lib.hid (fun wx (hb : Bel w wx) => way5_calls b1 b2 _ _ xs ys wx (h1.below hb) (h2.below hb) (by omega) (by omega))
  have W6 := Lib.hid (fun wx (hb : Bel w wx) => way6_calls b1 b2 _ _ xs ys wx (h1.below hb) (h2.below hb) (by omega) (by omega))
  have L1 := Lib.hid (show ∀ n, n ≤ Dg.dv B64 xs + Dg.dv B64 ys → (Dg.db B64 n).length ≤ 549755813888 from fun n hn => by
    have e1 := Dg.db_length (b := B64) (by decide) (Dg.dv_lt xs h1.1)
    have e2 := Dg.db_length (b := B64) (by decide) (Dg.dv_lt ys h2.1)
    exact Nat.le_trans (db_len_mono hn) (Nat.le_trans (db_add_len (p := 274877906944) (by omega) (by omega)) (by omega)))
  clear h1 h2
  generalize Dg.dv B64 xs = X at *
  generalize Dg.dv B64 ys = Y at *
  go_enter Tryz.func34, Tryz.ntmps34
  go_upto_region 1 with fail
  obtain ⟨g1, g2, g3, hB0, hsz⟩ := three_blocks w (.cells #[.bool b1, .slice a1 xs.length c1] 25) (.cells #[.bool b2, .slice a2 ys.length c2] 25) (.cells #[.bool false, .slice none 0 0] 25)
  generalize ((w.alloc (.cells #[.bool b1, .slice a1 xs.length c1] 25)).alloc (.cells #[.bool b2, .slice a2 ys.length c2] 25)).alloc (.cells #[.bool false, .slice none 0 0] 25) = W at *
  have HGE := Lib.hid (show w.heap.size ≤ w.heap.size + 1 + 1 by omega)
  generalize w.heap.size + 1 + 1 = j3 at *
  generalize w.heap.size + 1 = j2 at *
  generalize hj1 : w.heap.size = j1 at *
  have HJ := Lib.hid hj1
  clear hj1
  have HG1 := Lib.hid g1
  have HG2 := Lib.hid g2
  have HG3 := Lib.hid g3
  have HB0 := Lib.hid hB0
  clear g1 g2 g3 hB0 hsz
  go_wp2_with fail
  refine (ways_calls _).mono ?_
  rintro e w2 ⟨rfl, rfl⟩
  have HST := Lib.hid (show AddSt w j1 j2 j3 W.heap.size #[.bool b1, .slice a1 xs.length c1] #[.bool b2, .slice a2 ys.length c2] (W.alloc (.cells wayCells 82)) from
    ⟨by rw [HJ.out]; exact HB0.out.alloc (by rw [← HJ.out]; exact Nat.le_trans (Nat.le_of_eq rfl) (by have := HB0.out.size; rw [HJ.out]; exact Nat.le_trans (Nat.le_of_lt (heap_lt HG1.out)) (Nat.le_refl _))) _, (heap_alloc_old _ _ (heap_lt HG1.out)).trans HG1.out, (heap_alloc_old _ _ (heap_lt HG2.out)).trans HG2.out, (heap_alloc_old _ _ (heap_lt HG3.out)).trans HG3.out, heap_alloc_new _ _⟩)
  clear HG1 HG2 HG3 HB0
  generalize W.alloc (.cells wayCells 82) = WG at *
  generalize W.heap.size = g at *
  go_wp2_with fail
  go_loopw [9] (fun s wr => ∃ k : Nat, (k = 0 ∨ k = 1 ∧ (b1 == b2) = false ∨ k = 2 ∧ (b1 == b2) = false ∧ X ≤ Y) ∧ s = .int .i64 k ∧ Hid (AddSt w j1 j2 j3 g #[.bool b1, .slice a1 xs.length c1] #[.bool b2, .slice a2 ys.length c2] wr)) (fun s _ => 3 - (intOf s).toNat)
  case atStart => exact ⟨0, .inl rfl, rfl, HST⟩
  case round =>
    clear HST
    have hst := fun (wz : World) (a : Addr) (f : Fn) (m : Mode) => run_store Tryz.prog wz a (.func f #[] #[]) m rfl
    obtain ⟨k, hk, rfl, HST⟩ := hrel
    have x0 := cell_of_row _ _ 0 _ _ (0, 0) HST.out.r1
    have x1 := cell_of_row _ _ 1 _ _ (0, 0) HST.out.r1
    have y0 := cell_of_row _ _ 0 _ _ (0, 0) HST.out.r2
    have y1 := cell_of_row _ _ 1 _ _ (0, 0) HST.out.r2
    have q0 := cell_of_row _ _ 0 _ _ (0, 0) HST.out.rg
    have q1 := cell_of_row _ _ 1 _ _ (0, 0) HST.out.rg
    have q2 := cell_of_row _ _ 2 _ _ (0, 0) HST.out.rg
    have q3 := cell_of_row _ _ 3 _ _ (0, 0) HST.out.rg
    have q4 := cell_of_row _ _ 4 _ _ (0, 0) HST.out.rg
    have q5 := cell_of_row _ _ 5 _ _ (0, 0) HST.out.rg
    have hcs : wayCells = #[.func (.func 96) #[] #[], .func (.func 97) #[] #[], .func (.func 98) #[] #[], .func (.func 99) #[] #[], .func (.func 101) #[] #[], .func (.func 102) #[] #[]] := rfl
    rw [hcs] at q0 q1 q2 q3 q4 q5
    clear hcs
    have n1w : j1 ≠ wr.heap.size := Nat.ne_of_lt (heap_lt HST.out.r1)
    have n2w : j2 ≠ wr.heap.size := Nat.ne_of_lt (heap_lt HST.out.r2)
    have hx0 := fun (o : Obj) => cell_of_row (wr.alloc o) _ 0 _ _ (0, 0) (HST.out.alloc o).r1
    have hx1 := fun (o : Obj) => cell_of_row (wr.alloc o) _ 1 _ _ (0, 0) (HST.out.alloc o).r1
    have hy0 := fun (o : Obj) => cell_of_row (wr.alloc o) _ 0 _ _ (0, 0) (HST.out.alloc o).r2
    have hy1 := fun (o : Obj) => cell_of_row (wr.alloc o) _ 1 _ _ (0, 0) (HST.out.alloc o).r2
    have ga := heap_alloc_new wr (.cells #[.nilFunc, .nilFunc] 82)
    have fa0 := frozen_of_row _ _ 0 _ _ ga
    have ca0 := cell_of_row _ _ 0 _ _ (0, 0) ga
    have fa1 := frozen_of_row _ _ 1 _ _ ga
    have ca1 := cell_of_row _ _ 1 _ _ (0, 0) ga
    clear ga
    rcases hk with rfl | ⟨rfl, hbb⟩ | ⟨rfl, hbb, hXY⟩
    · cases hbb : (b1 == b2)
      · go_wp2_with fail
        refine Calls.mono (W1.out _ (HST.out.alloc _).bel) ?_
        rintro e w4 ⟨he, hb⟩
        rw [hbb] at he
        subst he
        have HST := Lib.hid ((HST.out.alloc _).call hb)
        have hbx := block_of hb (heap_alloc_new _ _)
        have HBXS := Lib.hid (heap_lt hbx)
        have z0 := cell_of_row _ _ 0 _ _ (0, 0) hbx
        have z1 := cell_of_row _ _ 1 _ _ (0, 0) hbx
        clear hbx hb hx0 hx1 hy0 hy1 n1w n2w fa0 fa1 ca0 ca1 x0 x1 y0 y1 q0 q1 q2 q3 q4 q5
        generalize wr.heap.size = kb at *
        have x0 := cell_of_row _ _ 0 _ _ (0, 0) HST.out.r1
        have x1 := cell_of_row _ _ 1 _ _ (0, 0) HST.out.r1
        have y0 := cell_of_row _ _ 0 _ _ (0, 0) HST.out.r2
        have y1 := cell_of_row _ _ 1 _ _ (0, 0) HST.out.r2
        have q0 := cell_of_row _ _ 0 _ _ (0, 0) HST.out.rg
        have q1 := cell_of_row _ _ 1 _ _ (0, 0) HST.out.rg
        have q2 := cell_of_row _ _ 2 _ _ (0, 0) HST.out.rg
        have q3 := cell_of_row _ _ 3 _ _ (0, 0) HST.out.rg
        have q4 := cell_of_row _ _ 4 _ _ (0, 0) HST.out.rg
        have q5 := cell_of_row _ _ 5 _ _ (0, 0) HST.out.rg
        go_wp2_with fail
        go_roundw
        case rel => exact ⟨1, .inr (.inl ⟨rfl, by first | exact hbb | trivial⟩), by go_num, HST⟩
        case measure => simp [intOf]
      · go_wp2_with fail
        refine Calls.mono (W1.out _ (HST.out.alloc _).bel) ?_
        rintro e w4 ⟨he, hb⟩
        rw [hbb] at he
        subst he
        have HST := Lib.hid ((HST.out.alloc _).call hb)
        have hbx := block_of hb (heap_alloc_new _ _)
        have HBXS := Lib.hid (heap_lt hbx)
        have z0 := cell_of_row _ _ 0 _ _ (0, 0) hbx
        have z1 := cell_of_row _ _ 1 _ _ (0, 0) hbx
        clear hbx hb hx0 hx1 hy0 hy1 n1w n2w fa0 fa1 ca0 ca1 x0 x1 y0 y1 q0 q1 q2 q3 q4 q5
        generalize wr.heap.size = kb at *
        have x0 := cell_of_row _ _ 0 _ _ (0, 0) HST.out.r1
        have x1 := cell_of_row _ _ 1 _ _ (0, 0) HST.out.r1
        have y0 := cell_of_row _ _ 0 _ _ (0, 0) HST.out.r2
        have y1 := cell_of_row _ _ 1 _ _ (0, 0) HST.out.r2
        have q0 := cell_of_row _ _ 0 _ _ (0, 0) HST.out.rg
        have q1 := cell_of_row _ _ 1 _ _ (0, 0) HST.out.rg
        have q2 := cell_of_row _ _ 2 _ _ (0, 0) HST.out.rg
        have q3 := cell_of_row _ _ 3 _ _ (0, 0) HST.out.rg
        have q4 := cell_of_row _ _ 4 _ _ (0, 0) HST.out.rg
        have q5 := cell_of_row _ _ 5 _ _ (0, 0) HST.out.rg
        go_wp2_with fail
        refine Calls.mono (W2.out _ HST.out.bel) ?_
        rintro e w5 ⟨v, rfl, hno, hb⟩
        obtain ⟨a3, c3, rfl⟩ := hno.slice
        have HN := Lib.hid hno.nv
        have HST := Lib.hid (HST.out.call hb)
        clear hno hb x0 x1 y0 y1 q0 q1 q2 q3 q4 q5 z0 z1
        go_wp2_with fail
        refine (wmake_calls b1 _ _ _ HN.out (Nat.le_trans (L1.out _ (by omega)) (by decide))).mono ?_
        rw [Dg.dv_db (by decide), ← (by rw [beq_iff_eq.1 hbb]; exact sum_same b2 X Y : sgn b1 X + sgn b2 Y = sgn b1 (X + Y))]
        rintro e w6 ⟨v, rfl, hno, hb⟩
        obtain ⟨a4, c4, rfl⟩ := hno.slice
        have HJ5 := Lib.hid (heap_lt HST.out.r3)
        have HST := Lib.hid (HST.out.call hb)
        have HN := Lib.hid hno
        have t0 := frozen_of_row _ _ 0 _ _ HST.out.r3
        have t1 := frozen_of_row _ _ 1 _ _ HST.out.r3
        have s0 := cell_of_row _ _ 0 _ _ (0, 0) HST.out.r3
        have s1 := cell_of_row _ _ 1 _ _ (0, 0) HST.out.r3
        clear hno hb
        generalize hS : sgn b1 X + sgn b2 Y = S at *
        have HS := Lib.hid hS
        clear hS
        go_wp2_with fail
        refine ret_row rfl _ _ j3 25 _ (0, 0) rfl (stored2 HST.out.r3 _ _) und_Int size_Int ?_
        obtain ⟨f1, f2⟩ := filled HST.out.bel (by rw [HJ.out]; exact HGE.out) HN.out HJ5.out (.bool (decide (S < 0))) (.slice a4 (Dg.db B64 S.natAbs).length c4)
        have hS := HS.out
        subst hS
        exact ⟨_, rfl, f1, f2⟩
    · rcases Nat.lt_or_ge X Y with hXY | hXY
      · have hd : decide (Y ≤ X) = false := by simp; omega
        go_wp2_with fail
        refine Calls.mono (W3.out _ (HST.out.alloc _).bel) ?_
        rintro e w4 ⟨he, hb⟩
        rw [hd] at he
        subst he
        have HST := Lib.hid ((HST.out.alloc _).call hb)
        have hbx := block_of hb (heap_alloc_new _ _)
        have HBXS := Lib.hid (heap_lt hbx)
        have z0 := cell_of_row _ _ 0 _ _ (0, 0) hbx
        have z1 := cell_of_row _ _ 1 _ _ (0, 0) hbx
        clear hbx hb hx0 hx1 hy0 hy1 n1w n2w fa0 fa1 ca0 ca1 x0 x1 y0 y1 q0 q1 q2 q3 q4 q5
        generalize wr.heap.size = kb at *
        have x0 := cell_of_row _ _ 0 _ _ (0, 0) HST.out.r1
        have x1 := cell_of_row _ _ 1 _ _ (0, 0) HST.out.r1
        have y0 := cell_of_row _ _ 0 _ _ (0, 0) HST.out.r2
        have y1 := cell_of_row _ _ 1 _ _ (0, 0) HST.out.r2
        have q0 := cell_of_row _ _ 0 _ _ (0, 0) HST.out.rg
        have q1 := cell_of_row _ _ 1 _ _ (0, 0) HST.out.rg
        have q2 := cell_of_row _ _ 2 _ _ (0, 0) HST.out.rg
        have q3 := cell_of_row _ _ 3 _ _ (0, 0) HST.out.rg
        have q4 := cell_of_row _ _ 4 _ _ (0, 0) HST.out.rg
        have q5 := cell_of_row _ _ 5 _ _ (0, 0) HST.out.rg
        go_wp2_with fail
        go_roundw
        case rel => exact ⟨2, .inr (.inr ⟨rfl, by first | exact hbb | trivial, Nat.le_of_lt hXY⟩), by go_num, HST⟩
        case measure => simp [intOf]
      · have hd : decide (Y ≤ X) = true := by simp; omega
        go_wp2_with fail
        refine Calls.mono (W3.out _ (HST.out.alloc _).bel) ?_
        rintro e w4 ⟨he, hb⟩
        rw [hd] at he
        subst he
        have HST := Lib.hid ((HST.out.alloc _).call hb)
        have hbx := block_of hb (heap_alloc_new _ _)
        have HBXS := Lib.hid (heap_lt hbx)
        have z0 := cell_of_row _ _ 0 _ _ (0, 0) hbx
        have z1 := cell_of_row _ _ 1 _ _ (0, 0) hbx
        clear hbx hb hx0 hx1 hy0 hy1 n1w n2w fa0 fa1 ca0 ca1 x0 x1 y0 y1 q0 q1 q2 q3 q4 q5
        generalize wr.heap.size = kb at *
        have x0 := cell_of_row _ _ 0 _ _ (0, 0) HST.out.r1
        have x1 := cell_of_row _ _ 1 _ _ (0, 0) HST.out.r1
        have y0 := cell_of_row _ _ 0 _ _ (0, 0) HST.out.r2
        have y1 := cell_of_row _ _ 1 _ _ (0, 0) HST.out.r2
        have q0 := cell_of_row _ _ 0 _ _ (0, 0) HST.out.rg
        have q1 := cell_of_row _ _ 1 _ _ (0, 0) HST.out.rg
        have q2 := cell_of_row _ _ 2 _ _ (0, 0) HST.out.rg
        have q3 := cell_of_row _ _ 3 _ _ (0, 0) HST.out.rg
        have q4 := cell_of_row _ _ 4 _ _ (0, 0) HST.out.rg
        have q5 := cell_of_row _ _ 5 _ _ (0, 0) HST.out.rg
        go_wp2_with fail
        refine Calls.mono (W4.out _ HST.out.bel hXY) ?_
        rintro e w5 ⟨v, rfl, hno, hb⟩
        obtain ⟨a3, c3, rfl⟩ := hno.slice
        have HN := Lib.hid hno.nv
        have HST := Lib.hid (HST.out.call hb)
        clear hno hb x0 x1 y0 y1 q0 q1 q2 q3 q4 q5 z0 z1
        go_wp2_with fail
        refine (wmake_calls b1 _ _ _ HN.out (Nat.le_trans (L1.out _ (by omega)) (by decide))).mono ?_
        rw [Dg.dv_db (by decide), ← (sum_ge hbb hXY)]
        rintro e w6 ⟨v, rfl, hno, hb⟩
        obtain ⟨a4, c4, rfl⟩ := hno.slice
        have HJ5 := Lib.hid (heap_lt HST.out.r3)
        have HST := Lib.hid (HST.out.call hb)
        have HN := Lib.hid hno
        have t0 := frozen_of_row _ _ 0 _ _ HST.out.r3
        have t1 := frozen_of_row _ _ 1 _ _ HST.out.r3
        have s0 := cell_of_row _ _ 0 _ _ (0, 0) HST.out.r3
        have s1 := cell_of_row _ _ 1 _ _ (0, 0) HST.out.r3
        clear hno hb
        generalize hS : sgn b1 X + sgn b2 Y = S at *
        have HS := Lib.hid hS
        clear hS
        go_wp2_with fail
        refine ret_row rfl _ _ j3 25 _ (0, 0) rfl (stored2 HST.out.r3 _ _) und_Int size_Int ?_
        obtain ⟨f1, f2⟩ := filled HST.out.bel (by rw [HJ.out]; exact HGE.out) HN.out HJ5.out (.bool (decide (S < 0))) (.slice a4 (Dg.db B64 S.natAbs).length c4)
        have hS := HS.out
        subst hS
        exact ⟨_, rfl, f1, f2⟩
    · go_wp2_with fail
      refine Calls.mono (W5.out _ (HST.out.alloc _).bel) ?_
      rintro e w4 ⟨he, hb⟩
      subst he
      have HST := Lib.hid ((HST.out.alloc _).call hb)
      have hbx := block_of hb (heap_alloc_new _ _)
      have HBXS := Lib.hid (heap_lt hbx)
      have z0 := cell_of_row _ _ 0 _ _ (0, 0) hbx
      have z1 := cell_of_row _ _ 1 _ _ (0, 0) hbx
      clear hbx hb hx0 hx1 hy0 hy1 n1w n2w fa0 fa1 ca0 ca1 x0 x1 y0 y1 q0 q1 q2 q3 q4 q5
      generalize wr.heap.size = kb at *
      have x0 := cell_of_row _ _ 0 _ _ (0, 0) HST.out.r1
      have x1 := cell_of_row _ _ 1 _ _ (0, 0) HST.out.r1
      have y0 := cell_of_row _ _ 0 _ _ (0, 0) HST.out.r2
      have y1 := cell_of_row _ _ 1 _ _ (0, 0) HST.out.r2
      have q0 := cell_of_row _ _ 0 _ _ (0, 0) HST.out.rg
      have q1 := cell_of_row _ _ 1 _ _ (0, 0) HST.out.rg
      have q2 := cell_of_row _ _ 2 _ _ (0, 0) HST.out.rg
      have q3 := cell_of_row _ _ 3 _ _ (0, 0) HST.out.rg
      have q4 := cell_of_row _ _ 4 _ _ (0, 0) HST.out.rg
      have q5 := cell_of_row _ _ 5 _ _ (0, 0) HST.out.rg
      go_wp2_with fail
      refine Calls.mono (W6.out _ HST.out.bel hXY) ?_
      rintro e w5 ⟨v, rfl, hno, hb⟩
      obtain ⟨a3, c3, rfl⟩ := hno.slice
      have HN := Lib.hid hno.nv
      have HST := Lib.hid (HST.out.call hb)
      clear hno hb x0 x1 y0 y1 q0 q1 q2 q3 q4 q5 z0 z1
      go_wp2_with fail
      refine (wmake_calls b2 _ _ _ HN.out (Nat.le_trans (L1.out _ (by omega)) (by decide))).mono ?_
      rw [Dg.dv_db (by decide), ← (sum_lt hbb hXY)]
      rintro e w6 ⟨v, rfl, hno, hb⟩
      obtain ⟨a4, c4, rfl⟩ := hno.slice
      have HJ5 := Lib.hid (heap_lt HST.out.r3)
      have HST := Lib.hid (HST.out.call hb)
      have HN := Lib.hid hno
      have t0 := frozen_of_row _ _ 0 _ _ HST.out.r3
      have t1 := frozen_of_row _ _ 1 _ _ HST.out.r3
      have s0 := cell_of_row _ _ 0 _ _ (0, 0) HST.out.r3
      have s1 := cell_of_row _ _ 1 _ _ (0, 0) HST.out.r3
      clear hno hb
      generalize hS : sgn b1 X + sgn b2 Y = S at *
      have HS := Lib.hid hS
      clear hS
      go_wp2_with fail
      refine ret_row rfl _ _ j3 25 _ (0, 0) rfl (stored2 HST.out.r3 _ _) und_Int size_Int ?_
      obtain ⟨f1, f2⟩ := filled HST.out.bel (by rw [HJ.out]; exact HGE.out) HN.out HJ5.out (.bool (decide (S < 0))) (.slice a4 (Dg.db B64 S.natAbs).length c4)
      have hS := HS.out
      subst hS
      exact ⟨_, rfl, f1, f2⟩

end Go.Proofs.YthlpfhenaakljaaGreatDoor

namespace Go.Proofs.YthlpfhenaakljaaGreatDoor
open Go.RowKit

theorem by_val (z : Int) (n : Nat) : sgn (decide (z < 0)) (z.natAbs * n) = z * n := by
  have h := sgn_mul2 (decide (z < 0)) false z.natAbs n
  rw [sgn_of] at h
  simpa [sgn] using h
theorem by_len {z : Int} {n p q : Nat} (h1 : (Dg.db B64 z.natAbs).length ≤ p) (h2 : (Dg.db B64 n).length ≤ q) : (Dg.db B64 (z * (n : Int)).natAbs).length ≤ p + q := by
  rw [Int.natAbs_mul, Int.natAbs_natCast]
  exact db_mul_len h1 h2
theorem sum_len {x y : Int} {p : Nat} (h1 : (Dg.db B64 x.natAbs).length ≤ p) (h2 : (Dg.db B64 y.natAbs).length ≤ p) : (Dg.db B64 (x + y).natAbs).length ≤ p + 1 :=
  Nat.le_trans (db_len_mono (Int.natAbs_add_le x y)) (db_add_len h1 h2)

set_option maxHeartbeats 3200000 in
theorem radd_calls (b1 b2 : Bool) (m1 m2 m3 m4 : Value) (xs ys us vs : List Nat) (z1 z2 : Int) (d1 d2 : Nat) (w : World) (h1 : Nv w m1 xs) (h2 : Nv w m2 ys) (h3 : Nv w m3 us) (h4 : Nv w m4 vs)
    (l1 : xs.length ≤ 34359738368) (l2 : ys.length ≤ 34359738368) (l3 : us.length ≤ 34359738368) (l4 : vs.length ≤ 34359738368)
    (hz1 : z1 = redZ b1 (Dg.dv B64 xs) (Dg.dv B64 ys)) (hd1 : d1 = redD (Dg.dv B64 xs) (Dg.dv B64 ys)) (hz2 : z2 = redZ b2 (Dg.dv B64 us) (Dg.dv B64 vs)) (hd2 : d2 = redD (Dg.dv B64 us) (Dg.dv B64 vs)) :
    Calls Tryz.prog 8 #[.agg #[.bool b1, m1, m2], .agg #[.bool b2, m3, m4]] w (RetR (nrm (z1 * (d2 : Int) + z2 * (d1 : Int)) (d1 * d2)) (nrd (z1 * (d2 : Int) + z2 * (d1 : Int)) (d1 * d2)) w) := by
  obtain ⟨_, a1, c1, rfl, _, _⟩ := id h1
  obtain ⟨_, a2, c2, rfl, _, _⟩ := id h2
  obtain ⟨_, a3, c3, rfl, _, _⟩ := id h3
  obtain ⟨_, a4, c4, rfl, _, _⟩ := id h4
  have HL := Lib.hid (redLens b1 b2 h1 h2 h3 h4 l1 l2 l3 l4)
  have HD12 := Lib.hid (redPos b1 b2 h1 h2 h3 h4)
  have C1 := Lib.hid (fun wx (hb : Below w.heap.size w wx) => count_calls b1 _ _ xs ys wx (h1.below hb) (h2.below hb) (by omega) (by omega))
  have C2 := Lib.hid (fun wx (hb : Below w.heap.size w wx) => count_calls b2 _ _ us vs wx (h3.below hb) (h4.below hb) (by omega) (by omega))
  rw [← hz1, ← hd1] at C1
  rw [← hz2, ← hd2] at C2
  rw [← hz1, ← hd1, ← hz2, ← hd2] at HL
  rw [← hd1, ← hd2] at HD12
  clear h1 h2 h3 h4 hz1 hz2 hd1 hd2
  generalize hZ : nrm (z1 * (d2 : Int) + z2 * (d1 : Int)) (d1 * d2) = Z
  generalize hD : nrd (z1 * (d2 : Int) + z2 * (d1 : Int)) (d1 * d2) = D
  have HZ := Lib.hid hZ
  have HD := Lib.hid hD
  clear hZ hD
  go_enter Tryz.func8, Tryz.ntmps8
  go_upto_region 1 with fail
  obtain ⟨g1, g2, g3, hB0, hsz⟩ := three_blocks w (.cells #[.bool b1, .slice a1 xs.length c1, .slice a2 ys.length c2] 27) (.cells #[.bool b2, .slice a3 us.length c3, .slice a4 vs.length c4] 27) (.cells #[.bool false, .slice none 0 0, .slice none 0 0] 27)
  generalize ((w.alloc (.cells #[.bool b1, .slice a1 xs.length c1, .slice a2 ys.length c2] 27)).alloc (.cells #[.bool b2, .slice a3 us.length c3, .slice a4 vs.length c4] 27)).alloc (.cells #[.bool false, .slice none 0 0, .slice none 0 0] 27) = W at *
  have q1 : W.drew.heap[w.heap.size]? = _ := g1
  have q2 : W.drew.heap[w.heap.size + 1]? = _ := g2
  have HQ3 := Lib.hid (show W.drew.heap[w.heap.size + 1 + 1]? = _ from g3)
  have x0 := cell_of_row _ _ 0 _ _ (0, 0) g1
  have x1 := cell_of_row _ _ 1 _ _ (0, 0) g1
  have x2 := cell_of_row _ _ 2 _ _ (0, 0) g1
  have y0 := cell_of_row _ _ 0 _ _ (0, 0) g2
  have y1 := cell_of_row _ _ 1 _ _ (0, 0) g2
  have y2 := cell_of_row _ _ 2 _ _ (0, 0) g2
  have hn1 : w.heap.size ≠ w.heap.size + 1 := by omega
  have hn2 : w.heap.size + 1 ≠ w.heap.size := by omega
  have HBX := Lib.hid hB0.drew
  have HSX := Lib.hid (show w.heap.size ≤ W.drew.heap.size by have : W.drew.heap.size = W.heap.size := rfl; omega)
  have HL3 := Lib.hid hsz
  have HN3 := Lib.hid (show w.heap.size ≤ w.heap.size + 1 ∧ w.heap.size + 1 ≠ w.heap.size + 1 + 1 ∧ w.heap.size ≠ w.heap.size + 1 + 1 ∧ w.heap.size ≤ w.heap.size + 1 + 1 ∧ w.heap.size + 1 ≤ w.heap.size + 1 + 1 by omega)
  clear g1 g2 g3 hB0 hsz
  generalize w.heap.size + 1 + 1 = j3 at *
  generalize w.heap.size + 1 = j2 at *
  generalize hj1 : w.heap.size = j1 at *
  have HJ1 := Lib.hid hj1
  clear hj1
  go_cut [] (fun wx => Hid (TwoSt w j1 j2 j3 z1 z2 d1 d2 wx))
  case rest =>
    clear q1 q2 HQ3 x0 x1 x2 y0 y1 y2 HBX HSX HL3 C1 C2
    have hj := HJ1.out
    obtain ⟨a1, c1, a2, c2, a3, c3, a4, c4, q1, q2, q3, p1, p2, p3, p4, hb⟩ := hcut.out
    clear hcut
    have CB1 := Lib.hid (fun wy (hb : TwoAt wc j1 j2 j3 (decide (z1 < 0)) (decide (z2 < 0)) (.slice a1 (Dg.db B64 z1.natAbs).length c1) (.slice a2 (Dg.db B64 d1).length c2) (.slice a3 (Dg.db B64 z2.natAbs).length c3) (.slice a4 (Dg.db B64 d2).length c4) wy) => by_calls (decide (z1 < 0)) _ _ _ _ wy (p1.nv.below hb.bel) (p4.nv.below hb.bel) (by have := HL.out; omega) (by have := HL.out; omega))
    rw [Dg.dv_db (by decide), Dg.dv_db (by decide), by_val] at CB1
    have CB2 := Lib.hid (fun wy (hb : TwoAt wc j1 j2 j3 (decide (z1 < 0)) (decide (z2 < 0)) (.slice a1 (Dg.db B64 z1.natAbs).length c1) (.slice a2 (Dg.db B64 d1).length c2) (.slice a3 (Dg.db B64 z2.natAbs).length c3) (.slice a4 (Dg.db B64 d2).length c4) wy) => by_calls (decide (z2 < 0)) _ _ _ _ wy (p3.nv.below hb.bel) (p2.nv.below hb.bel) (by have := HL.out; omega) (by have := HL.out; omega))
    rw [Dg.dv_db (by decide), Dg.dv_db (by decide), by_val] at CB2
    have CN := Lib.hid (fun wy (hb : TwoAt wc j1 j2 j3 (decide (z1 < 0)) (decide (z2 < 0)) (.slice a1 (Dg.db B64 z1.natAbs).length c1) (.slice a2 (Dg.db B64 d1).length c2) (.slice a3 (Dg.db B64 z2.natAbs).length c3) (.slice a4 (Dg.db B64 d2).length c4) wy) => mul_calls _ _ _ _ wy (p2.nv.below hb.bel) (p4.nv.below hb.bel) (by have := HL.out; omega) (by have := HL.out; omega))
    rw [Dg.dv_db (by decide), Dg.dv_db (by decide)] at CN
    have HLA := Lib.hid (show (Dg.db B64 (z1 * (d2 : Int)).natAbs).length ≤ 68719476738 from Nat.le_trans (by_len HL.out.1 HL.out.2.2.2) (by omega))
    have HLB := Lib.hid (show (Dg.db B64 (z2 * (d1 : Int)).natAbs).length ≤ 68719476738 from Nat.le_trans (by_len HL.out.2.2.1 HL.out.2.1) (by omega))
    have HLM := Lib.hid (show (Dg.db B64 (z1 * (d2 : Int) + z2 * (d1 : Int)).natAbs).length ≤ 549755813888 from Nat.le_trans (sum_len HLA.out HLB.out) (by omega))
    have HLD := Lib.hid (show (Dg.db B64 (d1 * d2)).length ≤ 549755813888 from Nat.le_trans (db_mul_len HL.out.2.1 HL.out.2.2.2) (by omega))
    have HD0 := Lib.hid (Nat.mul_ne_zero HD12.out.1 HD12.out.2)
    generalize hA : z1 * (d2 : Int) = A at *
    generalize hB : z2 * (d1 : Int) = B at *
    have HAB := Lib.hid (And.intro hA hB)
    clear hA hB
    have HST := Lib.hid (show TwoAt wc j1 j2 j3 (decide (z1 < 0)) (decide (z2 < 0)) (.slice a1 (Dg.db B64 z1.natAbs).length c1) (.slice a2 (Dg.db B64 d1).length c2) (.slice a3 (Dg.db B64 z2.natAbs).length c3) (.slice a4 (Dg.db B64 d2).length c4) wc from ⟨Below.refl _ _, q1, q2, q3⟩)
    have nw1 : j1 ≠ wc.heap.size := Nat.ne_of_lt (heap_lt q1)
    have nw2 : j2 ≠ wc.heap.size := Nat.ne_of_lt (heap_lt q2)
    have nw3 := Ne.symm nw1
    have nw4 := Ne.symm nw2
    have HSX := Lib.hid (Nat.le_refl wc.heap.size)
    have HBW := Lib.hid hb
    have HGE := Lib.hid (show w.heap.size ≤ j3 by rw [hj]; exact HN3.out.2.2.2.1)
    have HJ3 := Lib.hid (heap_lt q3)
    have x0 := cell_of_row _ _ 0 _ _ (0, 0) HST.out.r1
    have x1 := cell_of_row _ _ 1 _ _ (0, 0) HST.out.r1
    have x2 := cell_of_row _ _ 2 _ _ (0, 0) HST.out.r1
    have y0 := cell_of_row _ _ 0 _ _ (0, 0) HST.out.r2
    have y1 := cell_of_row _ _ 1 _ _ (0, 0) HST.out.r2
    have y2 := cell_of_row _ _ 2 _ _ (0, 0) HST.out.r2
    clear q1 q2 q3 p1 p2 p3 p4 hb hj
    generalize (Dg.db B64 z1.natAbs).length = n1 at *
    generalize (Dg.db B64 d1).length = n2 at *
    generalize (Dg.db B64 z2.natAbs).length = n3 at *
    generalize (Dg.db B64 d2).length = n4 at *
    generalize hs1 : decide (z1 < 0) = s1 at *
    generalize hs2 : decide (z2 < 0) = s2 at *
    have HS12 := Lib.hid (And.intro hs1 hs2)
    clear hs1 hs2
    go_upto_region 2 with fail
    go_cut [5] (fun v wx => Hid (∃ k a9 c9 aA cA, v = .pointer (some ⟨k, 0, none⟩) ∧ EndAt w j3 k (.bool (decide (Z < 0))) (.slice a9 (Dg.db B64 Z.natAbs).length c9) (.slice aA (Dg.db B64 D).length cA) (Dg.db B64 Z.natAbs) (Dg.db B64 D) wx))
    case rest =>
      obtain ⟨k, a9, c9, aA, cA, rfl, hE⟩ := hcut.out
      have HE := Lib.hid hE
      have e0 := frozen_of_row _ _ 0 _ _ hE.g
      have r0 := cell_of_row _ _ 0 _ _ (0, 0) hE.g
      have t0 := frozen_of_row _ _ 0 _ _ hE.r3
      have v0 := cell_of_row _ _ 0 _ _ (0, 0) hE.r3
      have e1 := frozen_of_row _ _ 1 _ _ hE.g
      have r1 := cell_of_row _ _ 1 _ _ (0, 0) hE.g
      have t1 := frozen_of_row _ _ 1 _ _ hE.r3
      have v1 := cell_of_row _ _ 1 _ _ (0, 0) hE.r3
      have e2 := frozen_of_row _ _ 2 _ _ hE.g
      have r2 := cell_of_row _ _ 2 _ _ (0, 0) hE.g
      have t2 := frozen_of_row _ _ 2 _ _ hE.r3
      have v2 := cell_of_row _ _ 2 _ _ (0, 0) hE.r3
      have n35 := hE.ne
      have n53 := Ne.symm n35
      clear hE hcut x0 x1 x2 y0 y1 y2
      go_wp2_with fail
      refine ret_row rfl _ _ j3 27 _ (0, 0) rfl (stored3 HE.out.r3 _ _ _) und_Rat size_Rat ?_
      exact ⟨_, rfl, ⟨_, _, rfl, (filled3 HE.out.bel HE.out.ge _ _ _).2 _ _ _ (Nat.lt_succ_self _) HE.out.hn, (filled3 HE.out.bel HE.out.ge _ _ _).2 _ _ _ (Nat.lt_succ_self _) HE.out.hd⟩, (filled3 HE.out.bel HE.out.ge _ _ _).1⟩
    go_region_held3 (fun w' => w'.cell? ⟨j1, 0, none⟩ = some (.bool s1) ∧ w'.cell? ⟨j1, 1, none⟩ = some (.slice a1 n1 c1) ∧ w'.cell? ⟨j1, 2, none⟩ = some (.slice a2 n2 c2) ∧ w'.cell? ⟨j2, 0, none⟩ = some (.bool s2) ∧ w'.cell? ⟨j2, 1, none⟩ = some (.slice a3 n3 c3) ∧ w'.cell? ⟨j2, 2, none⟩ = some (.slice a4 n4 c4)) (go_keep)
      (first
        | (go_at_call_of 35 (Value.agg #[.bool s1, .slice a1 n1 c1])
           refine Calls.mono (CB1.out _ (by first | exact HST.out | exact HST.out.drew | exact HST.out.alloc _ | exact (HST.out.alloc _).drew)) ?_
           rintro e w1 ⟨v, rfl, hno, hb⟩
           obtain ⟨a7, c7, rfl⟩ := hno.slice
           have HNA := Lib.hid hno.nv
           clear hno
           have HST := Lib.hid (TwoAt.call (by first | exact HST.out | exact HST.out.drew | exact HST.out.alloc _ | exact (HST.out.alloc _).drew) hb)
           first
             | (have g5 := block_of hb g5
                have HK8 := Lib.hid (Nat.lt_of_lt_of_le HK8.out hb.size))
             | (have g5 := block_of hb (heap_alloc_new wc _)
                have hj35 := HJ3.out
                have HK5 := Lib.hid (show j3 < wc.heap.size from Nat.lt_of_lt_of_le HJ3.out HSX.out)
                have n35 : j3 ≠ wc.heap.size := Nat.ne_of_lt HK5.out
                have n53 : wc.heap.size ≠ j3 := Ne.symm n35
                have n15 : j1 ≠ wc.heap.size := fun h => by have h1 := HK5.out; have h2 := HN3.out; omega
                have n51 : wc.heap.size ≠ j1 := Ne.symm n15
                have n25 : j2 ≠ wc.heap.size := fun h => by have h1 := HK5.out; have h2 := HN3.out; omega
                have n52 : wc.heap.size ≠ j2 := Ne.symm n25
                have HK6 := Lib.hid (show w.heap.size ≤ wc.heap.size from Nat.le_trans HBW.out.size HSX.out)
                have HKB := Lib.hid (show wc.heap.size < (wc.alloc (.cells #[.bool false, .slice none 0 0, .slice none 0 0] 27)).heap.size by simp)
                have HK8 := Lib.hid (Nat.lt_of_lt_of_le HKB.out hb.size)
                clear hj35
                generalize wc.heap.size = k5 at *)
             | skip
           have HSX := Lib.hid (show wc.heap.size ≤ w1.heap.size from HST.out.bel.size)
           have x0 := cell_of_row _ _ 0 _ _ (0, 0) HST.out.r1
           have x1 := cell_of_row _ _ 1 _ _ (0, 0) HST.out.r1
           have x2 := cell_of_row _ _ 2 _ _ (0, 0) HST.out.r1
           have y0 := cell_of_row _ _ 0 _ _ (0, 0) HST.out.r2
           have y1 := cell_of_row _ _ 1 _ _ (0, 0) HST.out.r2
           have y2 := cell_of_row _ _ 2 _ _ (0, 0) HST.out.r2
           clear hb)
        | (go_at_call_of 35 (Value.agg #[.bool s2, .slice a3 n3 c3])
           refine Calls.mono (CB2.out _ (by first | exact HST.out | exact HST.out.drew | exact HST.out.alloc _ | exact (HST.out.alloc _).drew)) ?_
           rintro e w2 ⟨v, rfl, hno, hb⟩
           obtain ⟨a8, c8, rfl⟩ := hno.slice
           have HNB := Lib.hid hno.nv
           clear hno
           have HNA := Lib.hid (Nv.below (by first | exact HNA.out | exact HNA.out.alloc _) hb)
           have HST := Lib.hid (TwoAt.call (by first | exact HST.out | exact HST.out.drew | exact HST.out.alloc _ | exact (HST.out.alloc _).drew) hb)
           first
             | (have g5 := block_of hb g5
                have HK8 := Lib.hid (Nat.lt_of_lt_of_le HK8.out hb.size))
             | (have g5 := block_of hb (heap_alloc_new w1 _)
                have hj35 := HJ3.out
                have HK5 := Lib.hid (show j3 < w1.heap.size from Nat.lt_of_lt_of_le HJ3.out HSX.out)
                have n35 : j3 ≠ w1.heap.size := Nat.ne_of_lt HK5.out
                have n53 : w1.heap.size ≠ j3 := Ne.symm n35
                have n15 : j1 ≠ w1.heap.size := fun h => by have h1 := HK5.out; have h2 := HN3.out; omega
                have n51 : w1.heap.size ≠ j1 := Ne.symm n15
                have n25 : j2 ≠ w1.heap.size := fun h => by have h1 := HK5.out; have h2 := HN3.out; omega
                have n52 : w1.heap.size ≠ j2 := Ne.symm n25
                have HK6 := Lib.hid (show w.heap.size ≤ w1.heap.size from Nat.le_trans HBW.out.size HSX.out)
                have HKB := Lib.hid (show w1.heap.size < (w1.alloc (.cells #[.bool false, .slice none 0 0, .slice none 0 0] 27)).heap.size by simp)
                have HK8 := Lib.hid (Nat.lt_of_lt_of_le HKB.out hb.size)
                clear hj35
                generalize w1.heap.size = k5 at *)
             | skip
           have HSX := Lib.hid (show wc.heap.size ≤ w2.heap.size from HST.out.bel.size)
           have x0 := cell_of_row _ _ 0 _ _ (0, 0) HST.out.r1
           have x1 := cell_of_row _ _ 1 _ _ (0, 0) HST.out.r1
           have x2 := cell_of_row _ _ 2 _ _ (0, 0) HST.out.r1
           have y0 := cell_of_row _ _ 0 _ _ (0, 0) HST.out.r2
           have y1 := cell_of_row _ _ 1 _ _ (0, 0) HST.out.r2
           have y2 := cell_of_row _ _ 2 _ _ (0, 0) HST.out.r2
           clear hb)
        | (go_at_call 34
           refine Calls.mono (wadd_int_calls _ _ _ _ _ _ _ (by first | exact HNA.out | exact HNA.out.drew | exact HNA.out.alloc _ | exact (Nv.alloc HNA.out _).drew) (by first | exact HNB.out | exact HNB.out.drew | exact HNB.out.alloc _ | exact (Nv.alloc HNB.out _).drew) (Nat.le_trans HLA.out (by decide)) (Nat.le_trans HLB.out (by decide))) ?_
           rintro e w3 ⟨v, rfl, hno, hb⟩
           rw [Dg.dv_db (by decide), Dg.dv_db (by decide), sgn_of, sgn_of] at hno ⊢
           obtain ⟨a6, c6, rfl⟩ := hno.slice
           have HNW := Lib.hid hno.nv
           clear hno
           have HST := Lib.hid (TwoAt.call (by first | exact HST.out | exact HST.out.drew | exact HST.out.alloc _ | exact (HST.out.alloc _).drew) hb)
           first
             | (have g5 := block_of hb g5
                have HK8 := Lib.hid (Nat.lt_of_lt_of_le HK8.out hb.size))
             | (have g5 := block_of hb (heap_alloc_new w2 _)
                have hj35 := HJ3.out
                have HK5 := Lib.hid (show j3 < w2.heap.size from Nat.lt_of_lt_of_le HJ3.out HSX.out)
                have n35 : j3 ≠ w2.heap.size := Nat.ne_of_lt HK5.out
                have n53 : w2.heap.size ≠ j3 := Ne.symm n35
                have n15 : j1 ≠ w2.heap.size := fun h => by have h1 := HK5.out; have h2 := HN3.out; omega
                have n51 : w2.heap.size ≠ j1 := Ne.symm n15
                have n25 : j2 ≠ w2.heap.size := fun h => by have h1 := HK5.out; have h2 := HN3.out; omega
                have n52 : w2.heap.size ≠ j2 := Ne.symm n25
                have HK6 := Lib.hid (show w.heap.size ≤ w2.heap.size from Nat.le_trans HBW.out.size HSX.out)
                have HKB := Lib.hid (show w2.heap.size < (w2.alloc (.cells #[.bool false, .slice none 0 0, .slice none 0 0] 27)).heap.size by simp)
                have HK8 := Lib.hid (Nat.lt_of_lt_of_le HKB.out hb.size)
                clear hj35
                generalize w2.heap.size = k5 at *)
             | skip
           have HSX := Lib.hid (show wc.heap.size ≤ w3.heap.size from HST.out.bel.size)
           have x0 := cell_of_row _ _ 0 _ _ (0, 0) HST.out.r1
           have x1 := cell_of_row _ _ 1 _ _ (0, 0) HST.out.r1
           have x2 := cell_of_row _ _ 2 _ _ (0, 0) HST.out.r1
           have y0 := cell_of_row _ _ 0 _ _ (0, 0) HST.out.r2
           have y1 := cell_of_row _ _ 1 _ _ (0, 0) HST.out.r2
           have y2 := cell_of_row _ _ 2 _ _ (0, 0) HST.out.r2
           clear hb)
        | (go_at_call 33
           refine Calls.mono (CN.out _ (by first | exact HST.out | exact HST.out.drew | exact HST.out.alloc _ | exact (HST.out.alloc _).drew)) ?_
           rintro e w4 ⟨v, rfl, hno, hb⟩
           obtain ⟨aN, cN, rfl⟩ := hno.slice
           have HNN := Lib.hid hno.nv
           clear hno
           have HNW := Lib.hid (Nv.below (by first | exact HNW.out | exact HNW.out.alloc _) hb)
           have HST := Lib.hid (TwoAt.call (by first | exact HST.out | exact HST.out.drew | exact HST.out.alloc _ | exact (HST.out.alloc _).drew) hb)
           first
             | (have g5 := block_of hb g5
                have HK8 := Lib.hid (Nat.lt_of_lt_of_le HK8.out hb.size))
             | (have g5 := block_of hb (heap_alloc_new w3 _)
                have hj35 := HJ3.out
                have HK5 := Lib.hid (show j3 < w3.heap.size from Nat.lt_of_lt_of_le HJ3.out HSX.out)
                have n35 : j3 ≠ w3.heap.size := Nat.ne_of_lt HK5.out
                have n53 : w3.heap.size ≠ j3 := Ne.symm n35
                have n15 : j1 ≠ w3.heap.size := fun h => by have h1 := HK5.out; have h2 := HN3.out; omega
                have n51 : w3.heap.size ≠ j1 := Ne.symm n15
                have n25 : j2 ≠ w3.heap.size := fun h => by have h1 := HK5.out; have h2 := HN3.out; omega
                have n52 : w3.heap.size ≠ j2 := Ne.symm n25
                have HK6 := Lib.hid (show w.heap.size ≤ w3.heap.size from Nat.le_trans HBW.out.size HSX.out)
                have HKB := Lib.hid (show w3.heap.size < (w3.alloc (.cells #[.bool false, .slice none 0 0, .slice none 0 0] 27)).heap.size by simp)
                have HK8 := Lib.hid (Nat.lt_of_lt_of_le HKB.out hb.size)
                clear hj35
                generalize w3.heap.size = k5 at *)
             | skip
           have HSX := Lib.hid (show wc.heap.size ≤ w4.heap.size from HST.out.bel.size)
           have x0 := cell_of_row _ _ 0 _ _ (0, 0) HST.out.r1
           have x1 := cell_of_row _ _ 1 _ _ (0, 0) HST.out.r1
           have x2 := cell_of_row _ _ 2 _ _ (0, 0) HST.out.r1
           have y0 := cell_of_row _ _ 0 _ _ (0, 0) HST.out.r2
           have y1 := cell_of_row _ _ 1 _ _ (0, 0) HST.out.r2
           have y2 := cell_of_row _ _ 2 _ _ (0, 0) HST.out.r2
           clear hb)
        | (go_at_call 23
           refine Calls.mono (rmake_calls _ _ _ _ _ _ (by first | exact HNW.out | exact HNW.out.drew | exact HNW.out.alloc _ | exact (Nv.alloc HNW.out _).drew) (by first | exact HNN.out | exact HNN.out.drew | exact HNN.out.alloc _ | exact (Nv.alloc HNN.out _).drew) HLM.out HLD.out) ?_
           rintro e w5 ⟨hb, _, hq⟩
           rw [Dg.dv_db (by decide), Dg.dv_db (by decide)] at hq
           obtain ⟨v, rfl, hr⟩ := hq HD0.out
           rw [(rr_nrm HD0.out).1, (rr_nrm HD0.out).2, HZ.out, HD.out] at hr
           obtain ⟨vn, vd, rfl, hn, hdn⟩ := hr
           obtain ⟨a9, c9, rfl⟩ := hn.slice
           obtain ⟨aA, cA, rfl⟩ := hdn.slice
           have HN := Lib.hid hn
           have HDN := Lib.hid hdn
           clear hq hn hdn
           have HS2 := Lib.hid (show wc.heap.size ≤ w4.heap.size from HSX.out)
           try have HKB := HK8
           have HST := Lib.hid (TwoAt.call (by first | exact HST.out | exact HST.out.drew | exact HST.out.alloc _ | exact (HST.out.alloc _).drew) hb)
           first
             | (have g5 := block_of hb g5
                have HK8 := Lib.hid (Nat.lt_of_lt_of_le HK8.out hb.size))
             | (have g5 := block_of hb (heap_alloc_new w4 _)
                have hj35 := HJ3.out
                have HK5 := Lib.hid (show j3 < w4.heap.size from Nat.lt_of_lt_of_le HJ3.out HSX.out)
                have n35 : j3 ≠ w4.heap.size := Nat.ne_of_lt HK5.out
                have n53 : w4.heap.size ≠ j3 := Ne.symm n35
                have n15 : j1 ≠ w4.heap.size := fun h => by have h1 := HK5.out; have h2 := HN3.out; omega
                have n51 : w4.heap.size ≠ j1 := Ne.symm n15
                have n25 : j2 ≠ w4.heap.size := fun h => by have h1 := HK5.out; have h2 := HN3.out; omega
                have n52 : w4.heap.size ≠ j2 := Ne.symm n25
                have HK6 := Lib.hid (show w.heap.size ≤ w4.heap.size from Nat.le_trans HBW.out.size HSX.out)
                have HKB := Lib.hid (show w4.heap.size < (w4.alloc (.cells #[.bool false, .slice none 0 0, .slice none 0 0] 27)).heap.size by simp)
                have HK8 := Lib.hid (Nat.lt_of_lt_of_le HKB.out hb.size)
                clear hj35
                generalize w4.heap.size = k5 at *)
             | (have g5 := heap_alloc_new w5 (.cells #[.bool false, .slice none 0 0, .slice none 0 0] 27)
                have HK5 := Lib.hid (show j3 < w5.heap.size from Nat.lt_of_lt_of_le HJ3.out HST.out.bel.size)
                have n35 : j3 ≠ w5.heap.size := Nat.ne_of_lt HK5.out
                have n53 : w5.heap.size ≠ j3 := Ne.symm n35
                have n15 : j1 ≠ w5.heap.size := fun h => by have h1 := HK5.out; have h2 := HN3.out; omega
                have n51 : w5.heap.size ≠ j1 := Ne.symm n15
                have n25 : j2 ≠ w5.heap.size := fun h => by have h1 := HK5.out; have h2 := HN3.out; omega
                have n52 : w5.heap.size ≠ j2 := Ne.symm n25
                have HK6 := Lib.hid (show w.heap.size ≤ w5.heap.size from Nat.le_trans HBW.out.size HST.out.bel.size)
                have HK7 := Lib.hid (show w5.heap.size = w5.heap.size from rfl))
           have e0 := frozen_of_row _ _ 0 _ _ g5
           have r0 := cell_of_row _ _ 0 _ _ (0, 0) g5
           have e1 := frozen_of_row _ _ 1 _ _ g5
           have r1 := cell_of_row _ _ 1 _ _ (0, 0) g5
           have e2 := frozen_of_row _ _ 2 _ _ g5
           have r2 := cell_of_row _ _ 2 _ _ (0, 0) g5
           have HSX := Lib.hid (show wc.heap.size ≤ w5.heap.size from HST.out.bel.size)
           have x0 := cell_of_row _ _ 0 _ _ (0, 0) HST.out.r1
           have x1 := cell_of_row _ _ 1 _ _ (0, 0) HST.out.r1
           have x2 := cell_of_row _ _ 2 _ _ (0, 0) HST.out.r1
           have y0 := cell_of_row _ _ 0 _ _ (0, 0) HST.out.r2
           have y1 := cell_of_row _ _ 1 _ _ (0, 0) HST.out.r2
           have y2 := cell_of_row _ _ 2 _ _ (0, 0) HST.out.r2
           clear hb))
    all_goals go_wp2_with fail
    all_goals go_meet
    all_goals first
      | exact Lib.hid ⟨_, _, _, _, _, rfl, endA HBW.out HST.out HN.out HDN.out (Nat.lt_of_lt_of_le HJ3.out HS2.out) (Nat.lt_of_lt_of_le HJ3.out HS2.out) HGE.out n35⟩
      | exact Lib.hid ⟨_, _, _, _, _, rfl, endB HBW.out HST.out g5 HK6.out HK5.out HN.out HDN.out HKB.out HKB.out HGE.out⟩
  go_region_with (first
    | (go_at_call_of 31 (Value.agg #[.bool b1, .slice a1 xs.length c1, .slice a2 ys.length c2])
       refine Calls.mono (C1.out _ HBX.out) ?_
       rintro e wP ⟨v, rfl, ⟨vn, vd, rfl, hn, hdn⟩, hbP⟩
       obtain ⟨a5P, c5P, rfl⟩ := hn.slice
       obtain ⟨a6P, c6P, rfl⟩ := hdn.slice
       have HNP := Lib.hid hn
       have HDP := Lib.hid hdn
       have HBX := Lib.hid (HBX.out.trans (hbP.mono HSX.out))
       have HSX := Lib.hid (Nat.le_trans HSX.out hbP.size)
       have q1 := block_of hbP q1
       have q2 := block_of hbP q2
       have HQ3 := Lib.hid (block_of hbP HQ3.out)
       have HBLP := Lib.hid hbP
       have x0 := cell_of_row _ _ 0 _ _ (0, 0) q1
       have x1 := cell_of_row _ _ 1 _ _ (0, 0) q1
       have x2 := cell_of_row _ _ 2 _ _ (0, 0) q1
       have y0 := cell_of_row _ _ 0 _ _ (0, 0) q2
       have y1 := cell_of_row _ _ 1 _ _ (0, 0) q2
       have y2 := cell_of_row _ _ 2 _ _ (0, 0) q2
       have f0 := frozen_of_row _ _ 0 _ _ q1
       have f1 := frozen_of_row _ _ 1 _ _ q1
       have f2 := frozen_of_row _ _ 2 _ _ q1
       have k0 := frozen_of_row _ _ 0 _ _ q2
       have k1 := frozen_of_row _ _ 1 _ _ q2
       have k2 := frozen_of_row _ _ 2 _ _ q2
       clear hn hdn hbP)
    | (go_at_call_of 31 (Value.agg #[.bool b2, .slice a3 us.length c3, .slice a4 vs.length c4])
       refine Calls.mono (C2.out _ HBX.out) ?_
       rintro e wQ ⟨v, rfl, ⟨vn, vd, rfl, hn, hdn⟩, hbQ⟩
       obtain ⟨a5Q, c5Q, rfl⟩ := hn.slice
       obtain ⟨a6Q, c6Q, rfl⟩ := hdn.slice
       have HNQ := Lib.hid hn
       have HDQ := Lib.hid hdn
       have HBX := Lib.hid (HBX.out.trans (hbQ.mono HSX.out))
       have HSX := Lib.hid (Nat.le_trans HSX.out hbQ.size)
       have q1 := block_of hbQ q1
       have q2 := block_of hbQ q2
       have HQ3 := Lib.hid (block_of hbQ HQ3.out)
       have HBLQ := Lib.hid hbQ
       have x0 := cell_of_row _ _ 0 _ _ (0, 0) q1
       have x1 := cell_of_row _ _ 1 _ _ (0, 0) q1
       have x2 := cell_of_row _ _ 2 _ _ (0, 0) q1
       have y0 := cell_of_row _ _ 0 _ _ (0, 0) q2
       have y1 := cell_of_row _ _ 1 _ _ (0, 0) q2
       have y2 := cell_of_row _ _ 2 _ _ (0, 0) q2
       have f0 := frozen_of_row _ _ 0 _ _ q1
       have f1 := frozen_of_row _ _ 1 _ _ q1
       have f2 := frozen_of_row _ _ 2 _ _ q1
       have k0 := frozen_of_row _ _ 0 _ _ q2
       have k1 := frozen_of_row _ _ 1 _ _ q2
       have k2 := frozen_of_row _ _ 2 _ _ q2
       clear hn hdn hbQ))
  all_goals go_wp2_with fail
  all_goals go_meet
  all_goals
    have hj := HJ1.out
    subst hj
    refine Lib.hid (two_fin q1 q2 HQ3.out hn1 HN3.out.2.2.1 HN3.out.2.1 HBX.out (Nat.le_refl _) HN3.out.1 HN3.out.2.2.2.1 HN3.out.2.2.2.2 (BP := W.drew.heap.size) (BQ := wP.drew.heap.size) ⟨_, _, rfl, HNP.out.below HBLQ.out, HDP.out.below HBLQ.out⟩ ⟨_, _, rfl, HNQ.out, HDQ.out⟩ HL3.out ?_)
    exact Nat.lt_of_lt_of_le HL3.out HBLP.out.size

end Go.Proofs.YthlpfhenaakljaaGreatDoor
