/- ref06.Count. ref06.plus. ref06.Mul. ref06.Add. ref06.Neg. ref06.Sub. ref06.size, Over, Of at 0. -/
import Derived.Test.YthlpfhenaakljaaGreatDoorL07
namespace Go.Proofs.YthlpfhenaakljaaGreatDoor
open Go.RowKit

theorem endC {w w3 : World} {j3 B C : Nat} {u v x : Value} {xs ys : List Nat} (hb : Below w.heap.size w w3) (h3 : w3.heap[j3]? = some (.cells #[.bool false, .slice none 0 0, .slice none 0 0] 27 (0, 0)))
    (hn : No B w3 v xs) (hd : No C w3 x ys) (hB : j3 < B) (hC : j3 < C) (hg : w.heap.size ≤ j3) : EndAt w j3 w3.heap.size u v x xs ys (w3.alloc (.cells #[u, v, x] 27)) := by
  have ha : Below w3.heap.size w3 (w3.alloc (.cells #[u, v, x] 27)) := (Below.refl _ _).alloc (Nat.le_refl _) _
  exact ⟨heap_alloc_new _ _, (heap_alloc_old _ _ (heap_lt h3)).trans h3, Nat.ne_of_lt (heap_lt h3), hb.trans (ha.mono hb.size), (hn.below ha).mono (by omega), (hd.below ha).mono (by omega), hg⟩

theorem No.one (w : World) : No w.heap.size (w.alloc (.cells #[.int .u64 1] 43)) (.slice (some ⟨w.heap.size, 0, none⟩) 1 1) (Dg.db B64 1) := by
  rw [db_one]
  exact ⟨fun x hx => by simp at hx; subst hx; decide, World.ownsRow_lit w #[.int .u64 1] 1 (Nat.le_refl _) (by decide) rfl⟩

set_option maxHeartbeats 3200000 in
theorem count6_calls (b : Bool) (m1 m2 : Value) (xs ys : List Nat) (w : World) (h1 : Nv w m1 xs) (h2 : Nv w m2 ys) (l1 : xs.length ≤ 1024) (l2 : ys.length ≤ 1024) :
    Calls Tryz.prog 30 #[.agg #[.bool b, m1, m2]] w (RetR (redZ b (Dg.dv B64 xs) (Dg.dv B64 ys)) (redD (Dg.dv B64 xs) (Dg.dv B64 ys)) w) := by
  obtain ⟨_, a1, c1, rfl, _, _⟩ := id h1
  obtain ⟨_, a2, c2, rfl, _, _⟩ := id h2
  have MK := Lib.hid (fun wx (hb : Below w.heap.size w wx) => make6_calls b _ _ xs ys wx (h1.below hb) (h2.below hb) l1 l2)
  clear h1 h2 l1 l2
  generalize Dg.dv B64 xs = n at *
  generalize Dg.dv B64 ys = d at *
  by_cases h0 : d = 0
  · have e1 : redZ b n d = 0 := by unfold redZ; rw [if_pos h0]
    have e2 : redD n d = 1 := by unfold redD; rw [if_pos h0]
    rw [e1, e2]
    have H0 := Lib.hid h0
    clear e1 e2 h0
    go_enter Tryz.func30, Tryz.ntmps30
    go_upto_region 1 with fail
    obtain ⟨g1, g2, hB0, hsz⟩ := two_blocks w (.cells #[.bool b, .slice a1 xs.length c1, .slice a2 ys.length c2] 27) (.cells #[.bool false, .slice none 0 0, .slice none 0 0] 27)
    generalize (w.alloc (.cells #[.bool b, .slice a1 xs.length c1, .slice a2 ys.length c2] 27)).alloc (.cells #[.bool false, .slice none 0 0, .slice none 0 0] 27) = W at *
    have HM := Lib.hid (MK.out _ hB0)
    have HG2 := Lib.hid g2
    have HB0 := Lib.hid hB0
    have HS0 := Lib.hid (show w.heap.size ≤ W.heap.size by omega)
    have hc0 := cell_of_row _ _ 0 _ _ (0, 0) g1
    have hc1 := cell_of_row _ _ 1 _ _ (0, 0) g1
    have hc2 := cell_of_row _ _ 2 _ _ (0, 0) g1
    have HGE := Lib.hid (show w.heap.size ≤ w.heap.size + 1 by omega)
    clear g1 g2 hB0 hsz MK
    generalize w.heap.size + 1 = j3 at *
    generalize hj : w.heap.size = j1 at *
    have HJ := Lib.hid hj
    clear hj
    go_wp2_with fail
    refine HM.out.mono ?_
    rintro e w2 ⟨hb, hq, _⟩
    obtain rfl := hq H0.out
    have HB2 := Lib.hid (show Below w.heap.size w w2 by rw [HJ.out]; exact HB0.out.trans (hb.mono HS0.out))
    have HG3 := Lib.hid (block_of hb HG2.out)
    have ga := heap_alloc_new w2 (.cells #[.bool false, .slice none 0 0, .slice none 0 0] 27)
    have e0 := frozen_of_row _ _ 0 _ _ ga
    have e1 := frozen_of_row _ _ 1 _ _ ga
    have e2 := frozen_of_row _ _ 2 _ _ ga
    have r0 := cell_of_row _ _ 0 _ _ (0, 0) ga
    have r1 := cell_of_row _ _ 1 _ _ (0, 0) ga
    have r2 := cell_of_row _ _ 2 _ _ (0, 0) ga
    have hg3 := fun (o o' : Obj) => (heap_alloc_old (w2.alloc o) o' (by rw [World.size_alloc]; have := heap_lt HG3.out; omega)).trans ((heap_alloc_old w2 o (heap_lt HG3.out)).trans HG3.out)
    have t0 := fun (o o' : Obj) => frozen_of_row _ _ 0 _ _ (hg3 o o')
    have t1 := fun (o o' : Obj) => frozen_of_row _ _ 1 _ _ (hg3 o o')
    have t2 := fun (o o' : Obj) => frozen_of_row _ _ 2 _ _ (hg3 o o')
    have v0 := fun (o o' : Obj) => cell_of_row _ _ 0 _ _ (0, 0) (hg3 o o')
    have v1 := fun (o o' : Obj) => cell_of_row _ _ 1 _ _ (0, 0) (hg3 o o')
    have v2 := fun (o o' : Obj) => cell_of_row _ _ 2 _ _ (0, 0) (hg3 o o')
    have HG4 := Lib.hid hg3
    clear hq hb ga hg3
    go_wp2_with fail
    refine ret_row rfl _ _ j3 27 _ (0, 0) rfl (stored3 (HG4.out _ _) _ _ _) und_Rat size_Rat ?_
    have HA := Lib.hid (HB2.out.alloc HB2.out.size (.cells #[.bool false, .slice none 0 0, .slice none 0 0] 27))
    have HA2 := Lib.hid (HA.out.alloc HA.out.size (.cells #[.int .u64 1] 43))
    have hge : w.heap.size ≤ j3 := by rw [HJ.out]; exact HGE.out
    have hlt : j3 < w2.heap.size + 1 := by have := heap_lt HG3.out; omega
    have hone := No.one (w2.alloc (.cells #[.bool false, .slice none 0 0, .slice none 0 0] 27))
    rw [World.size_alloc] at hone
    exact ⟨_, rfl, ⟨.slice none 0 0, _, rfl, No.nil _ _, (filled3 HA2.out hge _ _ _).2 _ _ _ hlt hone⟩, (filled3 HA2.out hge _ _ _).1⟩
  · have e1 : redZ b n d = sgn b (n / Nat.gcd n d) := by unfold redZ; rw [if_neg h0]
    have e2 : redD n d = d / Nat.gcd n d := by unfold redD; rw [if_neg h0]
    rw [e1, e2]
    have H0 := Lib.hid h0
    clear e1 e2 h0
    generalize hz : sgn b (n / Nat.gcd n d) = z at *
    generalize hd : d / Nat.gcd n d = dd at *
    have HZ := Lib.hid hz
    have HD := Lib.hid hd
    clear hz hd
    go_enter Tryz.func30, Tryz.ntmps30
    go_upto_region 1 with fail
    obtain ⟨g1, g2, hB0, hsz⟩ := two_blocks w (.cells #[.bool b, .slice a1 xs.length c1, .slice a2 ys.length c2] 27) (.cells #[.bool false, .slice none 0 0, .slice none 0 0] 27)
    generalize (w.alloc (.cells #[.bool b, .slice a1 xs.length c1, .slice a2 ys.length c2] 27)).alloc (.cells #[.bool false, .slice none 0 0, .slice none 0 0] 27) = W at *
    have HM := Lib.hid (MK.out _ hB0)
    have HG2 := Lib.hid g2
    have HB0 := Lib.hid hB0
    have HS0 := Lib.hid (show w.heap.size ≤ W.heap.size by omega)
    have hc0 := cell_of_row _ _ 0 _ _ (0, 0) g1
    have hc1 := cell_of_row _ _ 1 _ _ (0, 0) g1
    have hc2 := cell_of_row _ _ 2 _ _ (0, 0) g1
    have HGE := Lib.hid (show w.heap.size ≤ w.heap.size + 1 by omega)
    clear g1 g2 hB0 hsz MK
    generalize w.heap.size + 1 = j3 at *
    generalize hj : w.heap.size = j1 at *
    have HJ := Lib.hid hj
    clear hj
    go_wp2_with fail
    refine HM.out.mono ?_
    rintro e w2 ⟨hb, _, hq⟩
    obtain ⟨v, rfl, hr⟩ := hq H0.out
    rw [HZ.out, HD.out] at hr
    obtain ⟨vn, vd, rfl, hn, hdn⟩ := hr
    obtain ⟨a5, c5, rfl⟩ := hn.slice
    obtain ⟨a6, c6, rfl⟩ := hdn.slice
    have HB2 := Lib.hid (show Below w.heap.size w w2 by rw [HJ.out]; exact HB0.out.trans (hb.mono HS0.out))
    have HG3 := Lib.hid (block_of hb HG2.out)
    have hge : w.heap.size ≤ j3 := by rw [HJ.out]; exact HGE.out
    have HE := Lib.hid (fun u => endC (u := u) HB2.out HG3.out hn hdn (heap_lt HG2.out) (heap_lt HG2.out) hge)
    have ga := heap_alloc_new w2 (.cells #[.bool false, .slice none 0 0, .slice none 0 0] 27)
    have e0 := frozen_of_row _ _ 0 _ _ ga
    have e1 := frozen_of_row _ _ 1 _ _ ga
    have e2 := frozen_of_row _ _ 2 _ _ ga
    have r0 := cell_of_row _ _ 0 _ _ (0, 0) ga
    have r1 := cell_of_row _ _ 1 _ _ (0, 0) ga
    have r2 := cell_of_row _ _ 2 _ _ (0, 0) ga
    have hg3 := fun (o : Obj) => (heap_alloc_old w2 o (heap_lt HG3.out)).trans HG3.out
    have t0 := fun (o : Obj) => frozen_of_row _ _ 0 _ _ (hg3 o)
    have t1 := fun (o : Obj) => frozen_of_row _ _ 1 _ _ (hg3 o)
    have t2 := fun (o : Obj) => frozen_of_row _ _ 2 _ _ (hg3 o)
    have v0 := fun (o : Obj) => cell_of_row _ _ 0 _ _ (0, 0) (hg3 o)
    have v1 := fun (o : Obj) => cell_of_row _ _ 1 _ _ (0, 0) (hg3 o)
    have v2 := fun (o : Obj) => cell_of_row _ _ 2 _ _ (0, 0) (hg3 o)
    clear hq hb ga hg3 hn hdn hge
    generalize hze : decide (z < 0) = bb at *
    have HZE := Lib.hid hze
    clear hze
    go_wp2_with fail
    refine ret_row rfl _ _ j3 27 _ (0, 0) rfl (stored3 (HE.out _).r3 _ _ _) und_Rat size_Rat ?_
    have hE := HE.out (.bool bb)
    exact ⟨_, rfl, ⟨_, _, by rw [HZE.out], (filled3 hE.bel hE.ge _ _ _).2 _ _ _ (Nat.lt_succ_self _) hE.hn, (filled3 hE.bel hE.ge _ _ _).2 _ _ _ (Nat.lt_succ_self _) hE.hd⟩, (filled3 hE.bel hE.ge _ _ _).1⟩

end Go.Proofs.YthlpfhenaakljaaGreatDoor

namespace Go.Proofs.YthlpfhenaakljaaGreatDoor
open Go.RowKit

/-- Both boxes and the result's block. -/
structure PSt (w : World) (j1 j2 j3 : Nat) (c1 c2 : Array Value) (wx : World) : Prop where
  bel : Below w.heap.size w wx
  r1 : wx.heap[j1]? = some (.cells c1 25 (0, 0))
  r2 : wx.heap[j2]? = some (.cells c2 25 (0, 0))
  r3 : wx.heap[j3]? = some (.cells #[.bool false, .slice none 0 0] 25 (0, 0))
theorem PSt.call {w wx wy : World} {j1 j2 j3 : Nat} {c1 c2 : Array Value} (h : PSt w j1 j2 j3 c1 c2 wx) (hb : Below wx.heap.size wx wy) : PSt w j1 j2 j3 c1 c2 wy :=
  ⟨h.bel.trans (hb.mono h.bel.size), block_of hb h.r1, block_of hb h.r2, block_of hb h.r3⟩
theorem PSt.drew {w wx : World} {j1 j2 j3 : Nat} {c1 c2 : Array Value} (h : PSt w j1 j2 j3 c1 c2 wx) : PSt w j1 j2 j3 c1 c2 wx.drew := ⟨h.bel.drew, h.r1, h.r2, h.r3⟩

set_option maxRecDepth 100000 in
set_option maxHeartbeats 3200000 in
theorem plus6_calls (b1 b2 : Bool) (m1 m2 : Value) (xs ys : List Nat) (w : World) (h1 : Nv w m1 xs) (h2 : Nv w m2 ys) (l1 : xs.length ≤ 100000) (l2 : ys.length ≤ 100000) :
    Calls Tryz.prog 41 #[.agg #[.bool b1, m1], .agg #[.bool b2, m2]] w (RetI (sgn b1 (Dg.dv B64 xs) + sgn b2 (Dg.dv B64 ys)) w) := by
  obtain ⟨_, a1, c1, rfl, _, _⟩ := id h1
  obtain ⟨_, a2, c2, rfl, _, _⟩ := id h2
  have KA := Lib.hid (fun wx (hb : Bel w wx) => add2_calls _ _ xs ys wx (h1.below hb) (h2.below hb) (by omega) (by omega))
  have KC := Lib.hid (fun wx (hb : Bel w wx) => cmp2_calls _ _ xs ys wx (h1.below hb) (h2.below hb) (by omega) (by omega))
  have KS1 := Lib.hid (fun wx (hb : Bel w wx) => sub2_calls _ _ xs ys wx (h1.below hb) (h2.below hb) (by omega) (by omega))
  have KS2 := Lib.hid (fun wx (hb : Bel w wx) => sub2_calls _ _ ys xs wx (h2.below hb) (h1.below hb) (by omega) (by omega))
  have L1 := Lib.hid (show ∀ n, n ≤ Dg.dv B64 xs + Dg.dv B64 ys → (Dg.db B64 n).length ≤ 1048576 from fun n hn => by
    have e1 := Dg.db_length (b := B64) (by decide) (Dg.dv_lt xs h1.1)
    have e2 := Dg.db_length (b := B64) (by decide) (Dg.dv_lt ys h2.1)
    exact Nat.le_trans (db_len_mono hn) (Nat.le_trans (db_add_len (p := 100000) (by omega) (by omega)) (by omega)))
  clear h1 h2
  generalize Dg.dv B64 xs = X at *
  generalize Dg.dv B64 ys = Y at *
  generalize hS : sgn b1 X + sgn b2 Y = S at *
  have HS := Lib.hid hS
  clear hS
  go_enter Tryz.func41, Tryz.ntmps41
  go_upto_region 1 with fail
  obtain ⟨g1, g2, g3, hB0, hsz⟩ := three_blocks w (.cells #[.bool b1, .slice a1 xs.length c1] 25) (.cells #[.bool b2, .slice a2 ys.length c2] 25) (.cells #[.bool false, .slice none 0 0] 25)
  generalize ((w.alloc (.cells #[.bool b1, .slice a1 xs.length c1] 25)).alloc (.cells #[.bool b2, .slice a2 ys.length c2] 25)).alloc (.cells #[.bool false, .slice none 0 0] 25) = W at *
  have HST := Lib.hid (show PSt w w.heap.size (w.heap.size + 1) (w.heap.size + 1 + 1) #[.bool b1, .slice a1 xs.length c1] #[.bool b2, .slice a2 ys.length c2] W from ⟨hB0, g1, g2, g3⟩)
  have HGE := Lib.hid (show w.heap.size ≤ w.heap.size + 1 + 1 by omega)
  have n13 : w.heap.size ≠ w.heap.size + 1 + 1 := by omega
  have n23 : w.heap.size + 1 ≠ w.heap.size + 1 + 1 := by omega
  have n31 := Ne.symm n13
  have n32 := Ne.symm n23
  clear g1 g2 g3 hB0 hsz
  generalize w.heap.size + 1 + 1 = j3 at *
  generalize w.heap.size + 1 = j2 at *
  generalize hj1 : w.heap.size = j1 at *
  have HJ := Lib.hid hj1
  clear hj1
  have x0 := cell_of_row _ _ 0 _ _ (0, 0) HST.out.r1
  have x1 := cell_of_row _ _ 1 _ _ (0, 0) HST.out.r1
  have y0 := cell_of_row _ _ 0 _ _ (0, 0) HST.out.r2
  have y1 := cell_of_row _ _ 1 _ _ (0, 0) HST.out.r2
  have t0 := frozen_of_row _ _ 0 _ _ HST.out.r3
  have v0 := cell_of_row _ _ 0 _ _ (0, 0) HST.out.r3
  have t1 := frozen_of_row _ _ 1 _ _ HST.out.r3
  have v1 := cell_of_row _ _ 1 _ _ (0, 0) HST.out.r3
  cases hbb : (b1 == b2)
  · have hbb2 : (b1 == b2) = false := by simpa using hbb
    have HBB := Lib.hid hbb2
    have K1 := Lib.hid (KC.out _ HST.out.bel)
    have hcz := Dg.cmpZ_nonneg (m := X) (n := Y)
    generalize Dg.cmpZ X Y = cz at *
    go_wp2_with fail
    refine K1.out.mono ?_
    rintro e w4 ⟨rfl, hb⟩
    have HST := Lib.hid (HST.out.call hb)
    clear hb x0 x1 y0 y1 t0 t1 v0 v1
    have x0 := cell_of_row _ _ 0 _ _ (0, 0) HST.out.r1
    have x1 := cell_of_row _ _ 1 _ _ (0, 0) HST.out.r1
    have y0 := cell_of_row _ _ 0 _ _ (0, 0) HST.out.r2
    have y1 := cell_of_row _ _ 1 _ _ (0, 0) HST.out.r2
    have t0 := frozen_of_row _ _ 0 _ _ HST.out.r3
    have v0 := cell_of_row _ _ 0 _ _ (0, 0) HST.out.r3
    have t1 := frozen_of_row _ _ 1 _ _ HST.out.r3
    have v1 := cell_of_row _ _ 1 _ _ (0, 0) HST.out.r3
    by_cases hle : Y ≤ X
    · have hcz1 : cz ≥ 0 := hcz.2 hle
      clear hcz
      have K2 := Lib.hid (KS1.out _ HST.out.bel hle)
      have HEQ := Lib.hid (show S = sgn b1 (X - Y) from HS.out.symm.trans (sum_ge HBB.out hle))
      have HLN := Lib.hid (L1.out (X - Y) (by omega))
      clear hle
      go_wp2_with fail
      refine K2.out.mono ?_
      rintro e w5 ⟨v5, rfl, hn5, hb⟩
      obtain ⟨a3, c3, rfl⟩ := hn5.slice
      have HN := Lib.hid hn5.nv
      have HST := Lib.hid (HST.out.call hb)
      clear hn5 hb x0 x1 y0 y1 t0 t1 v0 v1
      have x0 := cell_of_row _ _ 0 _ _ (0, 0) HST.out.r1
      have x1 := cell_of_row _ _ 1 _ _ (0, 0) HST.out.r1
      have y0 := cell_of_row _ _ 0 _ _ (0, 0) HST.out.r2
      have y1 := cell_of_row _ _ 1 _ _ (0, 0) HST.out.r2
      have t0 := frozen_of_row _ _ 0 _ _ HST.out.r3
      have v0 := cell_of_row _ _ 0 _ _ (0, 0) HST.out.r3
      have t1 := frozen_of_row _ _ 1 _ _ HST.out.r3
      have v1 := cell_of_row _ _ 1 _ _ (0, 0) HST.out.r3
      go_wp2_with fail
      refine Calls.mono (sign6_calls b1 _ _ _ HN.out HLN.out) ?_
      rw [Dg.dv_db (by decide), ← HEQ.out]
      rintro e w6 ⟨v, rfl, hno, hb⟩
      obtain ⟨a4, c4, rfl⟩ := hno.slice
      have HJ5 := Lib.hid (heap_lt HST.out.r3)
      have HST := Lib.hid (HST.out.call hb)
      have HN := Lib.hid hno
      have x0 := cell_of_row _ _ 0 _ _ (0, 0) HST.out.r1
      have x1 := cell_of_row _ _ 1 _ _ (0, 0) HST.out.r1
      have y0 := cell_of_row _ _ 0 _ _ (0, 0) HST.out.r2
      have y1 := cell_of_row _ _ 1 _ _ (0, 0) HST.out.r2
      have t0 := frozen_of_row _ _ 0 _ _ HST.out.r3
      have v0 := cell_of_row _ _ 0 _ _ (0, 0) HST.out.r3
      have t1 := frozen_of_row _ _ 1 _ _ HST.out.r3
      have v1 := cell_of_row _ _ 1 _ _ (0, 0) HST.out.r3
      clear hno hb
      go_wp2_with fail
      refine ret_row rfl _ _ j3 25 _ (0, 0) rfl (stored2 HST.out.r3 _ _) und_Int size_Int ?_
      obtain ⟨f1, f2⟩ := filled HST.out.bel (by rw [HJ.out]; exact HGE.out) HN.out HJ5.out (.bool (decide (S < 0))) (.slice a4 (Dg.db B64 S.natAbs).length c4)
      exact ⟨_, rfl, f1, f2⟩
    · have hcz1 : ¬ (cz ≥ 0) := fun h => hle (hcz.1 h)
      clear hcz
      have K2 := Lib.hid (KS2.out _ HST.out.bel (by omega))
      have HEQ := Lib.hid (show S = sgn b2 (Y - X) from HS.out.symm.trans (sum_lt HBB.out (by omega)))
      have HLN := Lib.hid (L1.out (Y - X) (by omega))
      clear hle
      go_wp2_with fail
      refine K2.out.mono ?_
      rintro e w5 ⟨v5, rfl, hn5, hb⟩
      obtain ⟨a3, c3, rfl⟩ := hn5.slice
      have HN := Lib.hid hn5.nv
      have HST := Lib.hid (HST.out.call hb)
      clear hn5 hb x0 x1 y0 y1 t0 t1 v0 v1
      have x0 := cell_of_row _ _ 0 _ _ (0, 0) HST.out.r1
      have x1 := cell_of_row _ _ 1 _ _ (0, 0) HST.out.r1
      have y0 := cell_of_row _ _ 0 _ _ (0, 0) HST.out.r2
      have y1 := cell_of_row _ _ 1 _ _ (0, 0) HST.out.r2
      have t0 := frozen_of_row _ _ 0 _ _ HST.out.r3
      have v0 := cell_of_row _ _ 0 _ _ (0, 0) HST.out.r3
      have t1 := frozen_of_row _ _ 1 _ _ HST.out.r3
      have v1 := cell_of_row _ _ 1 _ _ (0, 0) HST.out.r3
      go_wp2_with fail
      refine Calls.mono (sign6_calls b2 _ _ _ HN.out HLN.out) ?_
      rw [Dg.dv_db (by decide), ← HEQ.out]
      rintro e w6 ⟨v, rfl, hno, hb⟩
      obtain ⟨a4, c4, rfl⟩ := hno.slice
      have HJ5 := Lib.hid (heap_lt HST.out.r3)
      have HST := Lib.hid (HST.out.call hb)
      have HN := Lib.hid hno
      have x0 := cell_of_row _ _ 0 _ _ (0, 0) HST.out.r1
      have x1 := cell_of_row _ _ 1 _ _ (0, 0) HST.out.r1
      have y0 := cell_of_row _ _ 0 _ _ (0, 0) HST.out.r2
      have y1 := cell_of_row _ _ 1 _ _ (0, 0) HST.out.r2
      have t0 := frozen_of_row _ _ 0 _ _ HST.out.r3
      have v0 := cell_of_row _ _ 0 _ _ (0, 0) HST.out.r3
      have t1 := frozen_of_row _ _ 1 _ _ HST.out.r3
      have v1 := cell_of_row _ _ 1 _ _ (0, 0) HST.out.r3
      clear hno hb
      go_wp2_with fail
      refine ret_row rfl _ _ j3 25 _ (0, 0) rfl (stored2 HST.out.r3 _ _) und_Int size_Int ?_
      obtain ⟨f1, f2⟩ := filled HST.out.bel (by rw [HJ.out]; exact HGE.out) HN.out HJ5.out (.bool (decide (S < 0))) (.slice a4 (Dg.db B64 S.natAbs).length c4)
      exact ⟨_, rfl, f1, f2⟩
  · have hbe : b2 = b1 := by have h : b1 = b2 := by simpa using hbb
                             exact h.symm
    subst hbe
    clear hbb
    have HEQ := Lib.hid (show S = sgn b2 (X + Y) from HS.out.symm.trans (sum_same b2 X Y))
    have HLN := Lib.hid (L1.out (X + Y) (by omega))
    have K1 := Lib.hid (KA.out _ HST.out.bel.drew)
    have HST := Lib.hid HST.out.drew
    go_upto_region 2 with fail
    go_region_held3 (fun w' => w'.cell? ⟨j1, 0, none⟩ = some (.bool b2) ∧ w'.cell? ⟨j1, 1, none⟩ = some (.slice a1 xs.length c1) ∧ w'.cell? ⟨j2, 1, none⟩ = some (.slice a2 ys.length c2)) (go_keep)
      (first
        | (go_at_call 69
           refine Calls.mono K1.out ?_
           rintro e w5 ⟨v5, rfl, hn5, hb⟩
           obtain ⟨a3, c3, rfl⟩ := hn5.slice
           have HN := Lib.hid hn5.nv
           have HST := Lib.hid (HST.out.call hb)
           clear hn5 hb
           have x0 := cell_of_row _ _ 0 _ _ (0, 0) HST.out.r1
           have x1 := cell_of_row _ _ 1 _ _ (0, 0) HST.out.r1
           have y0 := cell_of_row _ _ 0 _ _ (0, 0) HST.out.r2
           have y1 := cell_of_row _ _ 1 _ _ (0, 0) HST.out.r2
           have t0 := frozen_of_row _ _ 0 _ _ HST.out.r3
           have v0 := cell_of_row _ _ 0 _ _ (0, 0) HST.out.r3
           have t1 := frozen_of_row _ _ 1 _ _ HST.out.r3
           have v1 := cell_of_row _ _ 1 _ _ (0, 0) HST.out.r3)
        | (go_at_call 68
           refine Calls.mono (sign6_calls b2 _ _ _ HN.out HLN.out) ?_
           rw [Dg.dv_db (by decide), ← HEQ.out]
           rintro e w6 ⟨v, rfl, hno, hb⟩
           obtain ⟨a4, c4, rfl⟩ := hno.slice
           have HJ5 := Lib.hid (heap_lt HST.out.r3)
           have HST := Lib.hid (HST.out.call hb)
           have HN := Lib.hid hno
           have x0 := cell_of_row _ _ 0 _ _ (0, 0) HST.out.r1
           have x1 := cell_of_row _ _ 1 _ _ (0, 0) HST.out.r1
           have y0 := cell_of_row _ _ 0 _ _ (0, 0) HST.out.r2
           have y1 := cell_of_row _ _ 1 _ _ (0, 0) HST.out.r2
           have t0 := frozen_of_row _ _ 0 _ _ HST.out.r3
           have v0 := cell_of_row _ _ 0 _ _ (0, 0) HST.out.r3
           have t1 := frozen_of_row _ _ 1 _ _ HST.out.r3
           have v1 := cell_of_row _ _ 1 _ _ (0, 0) HST.out.r3
           clear hno hb))
    go_wp2_with fail
    refine ret_row rfl _ _ j3 25 _ (0, 0) rfl (stored2 HST.out.r3 _ _) und_Int size_Int ?_
    obtain ⟨f1, f2⟩ := filled HST.out.bel (by rw [HJ.out]; exact HGE.out) HN.out HJ5.out (.bool (decide (S < 0))) (.slice a4 (Dg.db B64 S.natAbs).length c4)
    exact ⟨_, rfl, f1, f2⟩

end Go.Proofs.YthlpfhenaakljaaGreatDoor

namespace Go.Proofs.YthlpfhenaakljaaGreatDoor
open Go.RowKit

theorem redLens6 {w : World} {m1 m2 m3 m4 : Value} {xs ys us vs : List Nat} (b1 b2 : Bool) (h1 : Nv w m1 xs) (h2 : Nv w m2 ys) (h3 : Nv w m3 us) (h4 : Nv w m4 vs)
    (l1 : xs.length ≤ 200) (l2 : ys.length ≤ 200) (l3 : us.length ≤ 200) (l4 : vs.length ≤ 200) :
    (Dg.db B64 (redZ b1 (Dg.dv B64 xs) (Dg.dv B64 ys)).natAbs).length ≤ 201 ∧ (Dg.db B64 (redD (Dg.dv B64 xs) (Dg.dv B64 ys))).length ≤ 201 ∧
    (Dg.db B64 (redZ b2 (Dg.dv B64 us) (Dg.dv B64 vs)).natAbs).length ≤ 201 ∧ (Dg.db B64 (redD (Dg.dv B64 us) (Dg.dv B64 vs))).length ≤ 201 := by
  have e1 := redZ_len b1 h1.1 (Dg.dv B64 ys)
  have e2 := redD_len (Dg.dv B64 xs) h2.1
  have e3 := redZ_len b2 h3.1 (Dg.dv B64 vs)
  have e4 := redD_len (Dg.dv B64 us) h4.1
  omega

theorem mul_nrm {z1 z2 : Int} {d : Nat} (hd : d ≠ 0) : sgn (!(decide (z1 < 0) == decide (z2 < 0))) (z1.natAbs * z2.natAbs / Nat.gcd (z1.natAbs * z2.natAbs) d) = nrm (z1 * z2) d ∧
    d / Nat.gcd (z1.natAbs * z2.natAbs) d = nrd (z1 * z2) d := by
  have e := rr_nrm (z := z1 * z2) hd
  rw [Int.natAbs_mul] at e
  refine ⟨?_, e.2⟩
  rw [← e.1]
  by_cases h0 : z1.natAbs * z2.natAbs = 0
  · rw [h0, Nat.zero_div]
    unfold sgn; simp
  · have h := sgn_neg (!(decide (z1 < 0) == decide (z2 < 0))) (z1.natAbs * z2.natAbs)
    have h2 : sgn (!(decide (z1 < 0) == decide (z2 < 0))) (z1.natAbs * z2.natAbs) = z1 * z2 := sgn_mul z1 z2
    rw [h2, decide_eq_true h0, Bool.and_true] at h
    rw [h]

set_option maxHeartbeats 3200000 in
theorem mul6_calls (b1 b2 : Bool) (m1 m2 m3 m4 : Value) (xs ys us vs : List Nat) (z1 z2 : Int) (d1 d2 : Nat) (w : World) (h1 : Nv w m1 xs) (h2 : Nv w m2 ys) (h3 : Nv w m3 us) (h4 : Nv w m4 vs)
    (l1 : xs.length ≤ 200) (l2 : ys.length ≤ 200) (l3 : us.length ≤ 200) (l4 : vs.length ≤ 200)
    (hz1 : z1 = redZ b1 (Dg.dv B64 xs) (Dg.dv B64 ys)) (hd1 : d1 = redD (Dg.dv B64 xs) (Dg.dv B64 ys)) (hz2 : z2 = redZ b2 (Dg.dv B64 us) (Dg.dv B64 vs)) (hd2 : d2 = redD (Dg.dv B64 us) (Dg.dv B64 vs)) :
    Calls Tryz.prog 16 #[.agg #[.bool b1, m1, m2], .agg #[.bool b2, m3, m4]] w (RetR (nrm (z1 * z2) (d1 * d2)) (nrd (z1 * z2) (d1 * d2)) w) := by
  obtain ⟨_, a1, c1, rfl, _, _⟩ := id h1
  obtain ⟨_, a2, c2, rfl, _, _⟩ := id h2
  obtain ⟨_, a3, c3, rfl, _, _⟩ := id h3
  obtain ⟨_, a4, c4, rfl, _, _⟩ := id h4
  have HL := Lib.hid (redLens6 b1 b2 h1 h2 h3 h4 l1 l2 l3 l4)
  have HD12 := Lib.hid (redPos b1 b2 h1 h2 h3 h4)
  have C1 := Lib.hid (fun wx (hb : Below w.heap.size w wx) => count6_calls b1 _ _ xs ys wx (h1.below hb) (h2.below hb) (by omega) (by omega))
  have C2 := Lib.hid (fun wx (hb : Below w.heap.size w wx) => count6_calls b2 _ _ us vs wx (h3.below hb) (h4.below hb) (by omega) (by omega))
  rw [← hz1, ← hd1] at C1
  rw [← hz2, ← hd2] at C2
  rw [← hz1, ← hd1, ← hz2, ← hd2] at HL
  rw [← hd1, ← hd2] at HD12
  clear h1 h2 h3 h4 hz1 hz2 hd1 hd2
  generalize hZ : nrm (z1 * z2) (d1 * d2) = Z
  generalize hD : nrd (z1 * z2) (d1 * d2) = D
  have HZ := Lib.hid hZ
  have HD := Lib.hid hD
  clear hZ hD
  go_enter Tryz.func16, Tryz.ntmps16
  go_upto_region 1 with fail
  obtain ⟨g1, g2, g3, hB0, hsz⟩ := three_blocks w (.cells #[.bool b1, .slice a1 xs.length c1, .slice a2 ys.length c2] 27) (.cells #[.bool b2, .slice a3 us.length c3, .slice a4 vs.length c4] 27) (.cells #[.bool false, .slice none 0 0, .slice none 0 0] 27)
  generalize ((w.alloc (.cells #[.bool b1, .slice a1 xs.length c1, .slice a2 ys.length c2] 27)).alloc (.cells #[.bool b2, .slice a3 us.length c3, .slice a4 vs.length c4] 27)).alloc (.cells #[.bool false, .slice none 0 0, .slice none 0 0] 27) = W at *
  have q1 : W.drew.heap[w.heap.size]? = _ := g1
  have q2 : W.drew.heap[w.heap.size + 1]? = _ := g2
  have HQ3 := Lib.hid (show W.drew.heap[w.heap.size + 1 + 1]? = _ from g3)
  have x0 := cell_of_row _ _ 0 _ _ (0, 0) g1
  have x1 := cell_of_row _ _ 1 _ _ (0, 0) g1
  have x2 := cell_of_row _ _ 2 _ _ (0, 0) g1
  have y0 := cell_of_row _ _ 0 _ _ (0, 0) g2
  have y1 := cell_of_row _ _ 1 _ _ (0, 0) g2
  have y2 := cell_of_row _ _ 2 _ _ (0, 0) g2
  have hn1 : w.heap.size ≠ w.heap.size + 1 := by omega
  have hn2 : w.heap.size + 1 ≠ w.heap.size := by omega
  have HBX := Lib.hid hB0.drew
  have HSX := Lib.hid (show w.heap.size ≤ W.drew.heap.size by have : W.drew.heap.size = W.heap.size := rfl; omega)
  have HL3 := Lib.hid hsz
  have HN3 := Lib.hid (show w.heap.size ≤ w.heap.size + 1 ∧ w.heap.size + 1 ≠ w.heap.size + 1 + 1 ∧ w.heap.size ≠ w.heap.size + 1 + 1 ∧ w.heap.size ≤ w.heap.size + 1 + 1 ∧ w.heap.size + 1 ≤ w.heap.size + 1 + 1 by omega)
  clear g1 g2 g3 hB0 hsz
  generalize w.heap.size + 1 + 1 = j3 at *
  generalize w.heap.size + 1 = j2 at *
  generalize hj1 : w.heap.size = j1 at *
  have HJ1 := Lib.hid hj1
  clear hj1
  go_cut [] (fun wx => Hid (TwoSt w j1 j2 j3 z1 z2 d1 d2 wx))
  case rest =>
    clear q1 q2 HQ3 x0 x1 x2 y0 y1 y2 HBX HSX HL3 C1 C2
    have hj := HJ1.out
    obtain ⟨a1, c1, a2, c2, a3, c3, a4, c4, q1, q2, q3, p1, p2, p3, p4, hb⟩ := hcut.out
    clear hcut
    have CW := Lib.hid (fun wy (hb : TwoAt wc j1 j2 j3 (decide (z1 < 0)) (decide (z2 < 0)) (.slice a1 (Dg.db B64 z1.natAbs).length c1) (.slice a2 (Dg.db B64 d1).length c2) (.slice a3 (Dg.db B64 z2.natAbs).length c3) (.slice a4 (Dg.db B64 d2).length c4) wy) => mul2_calls _ _ _ _ wy (p1.nv.below hb.bel) (p3.nv.below hb.bel) (by have := HL.out; omega) (by have := HL.out; omega))
    rw [Dg.dv_db (by decide), Dg.dv_db (by decide)] at CW
    have CN := Lib.hid (fun wy (hb : TwoAt wc j1 j2 j3 (decide (z1 < 0)) (decide (z2 < 0)) (.slice a1 (Dg.db B64 z1.natAbs).length c1) (.slice a2 (Dg.db B64 d1).length c2) (.slice a3 (Dg.db B64 z2.natAbs).length c3) (.slice a4 (Dg.db B64 d2).length c4) wy) => mul2_calls _ _ _ _ wy (p2.nv.below hb.bel) (p4.nv.below hb.bel) (by have := HL.out; omega) (by have := HL.out; omega))
    rw [Dg.dv_db (by decide), Dg.dv_db (by decide)] at CN
    have HLM := Lib.hid (show (Dg.db B64 (z1.natAbs * z2.natAbs)).length ≤ 1024 from Nat.le_trans (db_mul_len HL.out.1 HL.out.2.2.1) (by omega))
    have HLD := Lib.hid (show (Dg.db B64 (d1 * d2)).length ≤ 1024 from Nat.le_trans (db_mul_len HL.out.2.1 HL.out.2.2.2) (by omega))
    have HD0 := Lib.hid (Nat.mul_ne_zero HD12.out.1 HD12.out.2)
    have hmn := mul_nrm (z1 := z1) (z2 := z2) HD0.out
    rw [HZ.out, HD.out] at hmn
    generalize z1.natAbs * z2.natAbs = N at *
    have HST := Lib.hid (show TwoAt wc j1 j2 j3 (decide (z1 < 0)) (decide (z2 < 0)) (.slice a1 (Dg.db B64 z1.natAbs).length c1) (.slice a2 (Dg.db B64 d1).length c2) (.slice a3 (Dg.db B64 z2.natAbs).length c3) (.slice a4 (Dg.db B64 d2).length c4) wc from ⟨Below.refl _ _, q1, q2, q3⟩)
    have nw1 : j1 ≠ wc.heap.size := Nat.ne_of_lt (heap_lt q1)
    have nw2 : j2 ≠ wc.heap.size := Nat.ne_of_lt (heap_lt q2)
    have nw3 := Ne.symm nw1
    have nw4 := Ne.symm nw2
    have HSX := Lib.hid (Nat.le_refl wc.heap.size)
    have HBW := Lib.hid hb
    have HGE := Lib.hid (show w.heap.size ≤ j3 by rw [hj]; exact HN3.out.2.2.2.1)
    have HJ3 := Lib.hid (heap_lt q3)
    have x0 := cell_of_row _ _ 0 _ _ (0, 0) HST.out.r1
    have x1 := cell_of_row _ _ 1 _ _ (0, 0) HST.out.r1
    have x2 := cell_of_row _ _ 2 _ _ (0, 0) HST.out.r1
    have y0 := cell_of_row _ _ 0 _ _ (0, 0) HST.out.r2
    have y1 := cell_of_row _ _ 1 _ _ (0, 0) HST.out.r2
    have y2 := cell_of_row _ _ 2 _ _ (0, 0) HST.out.r2
    clear q1 q2 q3 p1 p2 p3 p4 hb hj
    generalize (Dg.db B64 z1.natAbs).length = n1 at *
    generalize (Dg.db B64 d1).length = n2 at *
    generalize (Dg.db B64 z2.natAbs).length = n3 at *
    generalize (Dg.db B64 d2).length = n4 at *
    generalize hs1 : decide (z1 < 0) = s1 at *
    generalize hs2 : decide (z2 < 0) = s2 at *
    have HS12 := Lib.hid (And.intro hs1 hs2)
    have HMN := Lib.hid hmn
    clear hmn
    clear hs1 hs2
    go_upto_region 2 with fail
    go_cut [5] (fun v wx => Hid (∃ k a9 c9 aA cA, v = .pointer (some ⟨k, 0, none⟩) ∧ EndAt w j3 k (.bool (decide (Z < 0))) (.slice a9 (Dg.db B64 Z.natAbs).length c9) (.slice aA (Dg.db B64 D).length cA) (Dg.db B64 Z.natAbs) (Dg.db B64 D) wx))
    case rest =>
      obtain ⟨k, a9, c9, aA, cA, rfl, hE⟩ := hcut.out
      have HE := Lib.hid hE
      have e0 := frozen_of_row _ _ 0 _ _ hE.g
      have r0 := cell_of_row _ _ 0 _ _ (0, 0) hE.g
      have t0 := frozen_of_row _ _ 0 _ _ hE.r3
      have v0 := cell_of_row _ _ 0 _ _ (0, 0) hE.r3
      have e1 := frozen_of_row _ _ 1 _ _ hE.g
      have r1 := cell_of_row _ _ 1 _ _ (0, 0) hE.g
      have t1 := frozen_of_row _ _ 1 _ _ hE.r3
      have v1 := cell_of_row _ _ 1 _ _ (0, 0) hE.r3
      have e2 := frozen_of_row _ _ 2 _ _ hE.g
      have r2 := cell_of_row _ _ 2 _ _ (0, 0) hE.g
      have t2 := frozen_of_row _ _ 2 _ _ hE.r3
      have v2 := cell_of_row _ _ 2 _ _ (0, 0) hE.r3
      have n35 := hE.ne
      have n53 := Ne.symm n35
      clear hE hcut x0 x1 x2 y0 y1 y2
      go_wp2_with fail
      refine ret_row rfl _ _ j3 27 _ (0, 0) rfl (stored3 HE.out.r3 _ _ _) und_Rat size_Rat ?_
      exact ⟨_, rfl, ⟨_, _, rfl, (filled3 HE.out.bel HE.out.ge _ _ _).2 _ _ _ (Nat.lt_succ_self _) HE.out.hn, (filled3 HE.out.bel HE.out.ge _ _ _).2 _ _ _ (Nat.lt_succ_self _) HE.out.hd⟩, (filled3 HE.out.bel HE.out.ge _ _ _).1⟩
    go_region_held3 (fun w' => w'.cell? ⟨j1, 0, none⟩ = some (.bool s1) ∧ w'.cell? ⟨j1, 1, none⟩ = some (.slice a1 n1 c1) ∧ w'.cell? ⟨j1, 2, none⟩ = some (.slice a2 n2 c2) ∧ w'.cell? ⟨j2, 0, none⟩ = some (.bool s2) ∧ w'.cell? ⟨j2, 1, none⟩ = some (.slice a3 n3 c3) ∧ w'.cell? ⟨j2, 2, none⟩ = some (.slice a4 n4 c4)) (go_keep)
      (first
        | (go_at_call_of 39 (Value.slice a1 n1 c1)
           refine Calls.mono (CW.out _ (by first | exact HST.out | exact HST.out.drew | exact HST.out.alloc _ | exact (HST.out.alloc _).drew)) ?_
           rintro e w1 ⟨v, rfl, hno, hb⟩
           obtain ⟨a7, c7, rfl⟩ := hno.slice
           have HNW := Lib.hid hno.nv
           clear hno
           have HST := Lib.hid (TwoAt.call (by first | exact HST.out | exact HST.out.drew | exact HST.out.alloc _ | exact (HST.out.alloc _).drew) hb)
           first
             | (have g5 := block_of hb g5
                have HK8 := Lib.hid (Nat.lt_of_lt_of_le HK8.out hb.size))
             | (have g5 := block_of hb (heap_alloc_new wc _)
                have hj35 := HJ3.out
                have HK5 := Lib.hid (show j3 < wc.heap.size from Nat.lt_of_lt_of_le HJ3.out HSX.out)
                have n35 : j3 ≠ wc.heap.size := Nat.ne_of_lt HK5.out
                have n53 : wc.heap.size ≠ j3 := Ne.symm n35
                have n15 : j1 ≠ wc.heap.size := fun h => by have h1 := HK5.out; have h2 := HN3.out; omega
                have n51 : wc.heap.size ≠ j1 := Ne.symm n15
                have n25 : j2 ≠ wc.heap.size := fun h => by have h1 := HK5.out; have h2 := HN3.out; omega
                have n52 : wc.heap.size ≠ j2 := Ne.symm n25
                have HK6 := Lib.hid (show w.heap.size ≤ wc.heap.size from Nat.le_trans HBW.out.size HSX.out)
                have HKB := Lib.hid (show wc.heap.size < (wc.alloc (.cells #[.bool false, .slice none 0 0, .slice none 0 0] 27)).heap.size by simp)
                have HK8 := Lib.hid (Nat.lt_of_lt_of_le HKB.out hb.size)
                clear hj35
                generalize wc.heap.size = k5 at *)
             | skip
           have HSX := Lib.hid (show wc.heap.size ≤ w1.heap.size from HST.out.bel.size)
           have x0 := cell_of_row _ _ 0 _ _ (0, 0) HST.out.r1
           have x1 := cell_of_row _ _ 1 _ _ (0, 0) HST.out.r1
           have x2 := cell_of_row _ _ 2 _ _ (0, 0) HST.out.r1
           have y0 := cell_of_row _ _ 0 _ _ (0, 0) HST.out.r2
           have y1 := cell_of_row _ _ 1 _ _ (0, 0) HST.out.r2
           have y2 := cell_of_row _ _ 2 _ _ (0, 0) HST.out.r2
           clear hb)
        | (go_at_call_of 39 (Value.slice a2 n2 c2)
           refine Calls.mono (CN.out _ (by first | exact HST.out | exact HST.out.drew | exact HST.out.alloc _ | exact (HST.out.alloc _).drew)) ?_
           rintro e w2 ⟨v, rfl, hno, hb⟩
           obtain ⟨a8, c8, rfl⟩ := hno.slice
           have HNN := Lib.hid hno.nv
           clear hno
           have HNW := Lib.hid (Nv.below (by first | exact HNW.out | exact HNW.out.alloc _) hb)
           have HST := Lib.hid (TwoAt.call (by first | exact HST.out | exact HST.out.drew | exact HST.out.alloc _ | exact (HST.out.alloc _).drew) hb)
           first
             | (have g5 := block_of hb g5
                have HK8 := Lib.hid (Nat.lt_of_lt_of_le HK8.out hb.size))
             | (have g5 := block_of hb (heap_alloc_new w1 _)
                have hj35 := HJ3.out
                have HK5 := Lib.hid (show j3 < w1.heap.size from Nat.lt_of_lt_of_le HJ3.out HSX.out)
                have n35 : j3 ≠ w1.heap.size := Nat.ne_of_lt HK5.out
                have n53 : w1.heap.size ≠ j3 := Ne.symm n35
                have n15 : j1 ≠ w1.heap.size := fun h => by have h1 := HK5.out; have h2 := HN3.out; omega
                have n51 : w1.heap.size ≠ j1 := Ne.symm n15
                have n25 : j2 ≠ w1.heap.size := fun h => by have h1 := HK5.out; have h2 := HN3.out; omega
                have n52 : w1.heap.size ≠ j2 := Ne.symm n25
                have HK6 := Lib.hid (show w.heap.size ≤ w1.heap.size from Nat.le_trans HBW.out.size HSX.out)
                have HKB := Lib.hid (show w1.heap.size < (w1.alloc (.cells #[.bool false, .slice none 0 0, .slice none 0 0] 27)).heap.size by simp)
                have HK8 := Lib.hid (Nat.lt_of_lt_of_le HKB.out hb.size)
                clear hj35
                generalize w1.heap.size = k5 at *)
             | skip
           have HSX := Lib.hid (show wc.heap.size ≤ w2.heap.size from HST.out.bel.size)
           have x0 := cell_of_row _ _ 0 _ _ (0, 0) HST.out.r1
           have x1 := cell_of_row _ _ 1 _ _ (0, 0) HST.out.r1
           have x2 := cell_of_row _ _ 2 _ _ (0, 0) HST.out.r1
           have y0 := cell_of_row _ _ 0 _ _ (0, 0) HST.out.r2
           have y1 := cell_of_row _ _ 1 _ _ (0, 0) HST.out.r2
           have y2 := cell_of_row _ _ 2 _ _ (0, 0) HST.out.r2
           clear hb)
        | (go_at_call 40
           refine Calls.mono (make6_calls (!(s1 == s2)) _ _ _ _ _ (by first | exact HNW.out | exact HNW.out.drew | exact HNW.out.alloc _ | exact (Nv.alloc HNW.out _).drew) (by first | exact HNN.out | exact HNN.out.drew | exact HNN.out.alloc _ | exact (Nv.alloc HNN.out _).drew) HLM.out HLD.out) ?_
           rintro e w3 ⟨hb, _, hq⟩
           rw [Dg.dv_db (by decide), Dg.dv_db (by decide)] at hq
           obtain ⟨v, rfl, hr⟩ := hq HD0.out
           rw [HMN.out.1, HMN.out.2] at hr
           obtain ⟨vn, vd, rfl, hn, hdn⟩ := hr
           obtain ⟨a9, c9, rfl⟩ := hn.slice
           obtain ⟨aA, cA, rfl⟩ := hdn.slice
           have HN := Lib.hid hn
           have HDN := Lib.hid hdn
           clear hq hn hdn
           have HS2 := Lib.hid (show wc.heap.size ≤ w2.heap.size from HSX.out)
           try have HKB := HK8
           have HST := Lib.hid (TwoAt.call (by first | exact HST.out | exact HST.out.drew | exact HST.out.alloc _ | exact (HST.out.alloc _).drew) hb)
           first
             | (have g5 := block_of hb g5
                have HK8 := Lib.hid (Nat.lt_of_lt_of_le HK8.out hb.size))
             | (have g5 := block_of hb (heap_alloc_new w2 _)
                have hj35 := HJ3.out
                have HK5 := Lib.hid (show j3 < w2.heap.size from Nat.lt_of_lt_of_le HJ3.out HSX.out)
                have n35 : j3 ≠ w2.heap.size := Nat.ne_of_lt HK5.out
                have n53 : w2.heap.size ≠ j3 := Ne.symm n35
                have n15 : j1 ≠ w2.heap.size := fun h => by have h1 := HK5.out; have h2 := HN3.out; omega
                have n51 : w2.heap.size ≠ j1 := Ne.symm n15
                have n25 : j2 ≠ w2.heap.size := fun h => by have h1 := HK5.out; have h2 := HN3.out; omega
                have n52 : w2.heap.size ≠ j2 := Ne.symm n25
                have HK6 := Lib.hid (show w.heap.size ≤ w2.heap.size from Nat.le_trans HBW.out.size HSX.out)
                have HKB := Lib.hid (show w2.heap.size < (w2.alloc (.cells #[.bool false, .slice none 0 0, .slice none 0 0] 27)).heap.size by simp)
                have HK8 := Lib.hid (Nat.lt_of_lt_of_le HKB.out hb.size)
                clear hj35
                generalize w2.heap.size = k5 at *)
             | (have g5 := heap_alloc_new w3 (.cells #[.bool false, .slice none 0 0, .slice none 0 0] 27)
                have HK5 := Lib.hid (show j3 < w3.heap.size from Nat.lt_of_lt_of_le HJ3.out HST.out.bel.size)
                have n35 : j3 ≠ w3.heap.size := Nat.ne_of_lt HK5.out
                have n53 : w3.heap.size ≠ j3 := Ne.symm n35
                have n15 : j1 ≠ w3.heap.size := fun h => by have h1 := HK5.out; have h2 := HN3.out; omega
                have n51 : w3.heap.size ≠ j1 := Ne.symm n15
                have n25 : j2 ≠ w3.heap.size := fun h => by have h1 := HK5.out; have h2 := HN3.out; omega
                have n52 : w3.heap.size ≠ j2 := Ne.symm n25
                have HK6 := Lib.hid (show w.heap.size ≤ w3.heap.size from Nat.le_trans HBW.out.size HST.out.bel.size)
                have HK7 := Lib.hid (show w3.heap.size = w3.heap.size from rfl))
           have e0 := frozen_of_row _ _ 0 _ _ g5
           have r0 := cell_of_row _ _ 0 _ _ (0, 0) g5
           have e1 := frozen_of_row _ _ 1 _ _ g5
           have r1 := cell_of_row _ _ 1 _ _ (0, 0) g5
           have e2 := frozen_of_row _ _ 2 _ _ g5
           have r2 := cell_of_row _ _ 2 _ _ (0, 0) g5
           have HSX := Lib.hid (show wc.heap.size ≤ w3.heap.size from HST.out.bel.size)
           have x0 := cell_of_row _ _ 0 _ _ (0, 0) HST.out.r1
           have x1 := cell_of_row _ _ 1 _ _ (0, 0) HST.out.r1
           have x2 := cell_of_row _ _ 2 _ _ (0, 0) HST.out.r1
           have y0 := cell_of_row _ _ 0 _ _ (0, 0) HST.out.r2
           have y1 := cell_of_row _ _ 1 _ _ (0, 0) HST.out.r2
           have y2 := cell_of_row _ _ 2 _ _ (0, 0) HST.out.r2
           clear hb))
    all_goals go_wp2_with fail
    all_goals go_meet
    all_goals first
      | exact Lib.hid ⟨_, _, _, _, _, rfl, endA HBW.out HST.out HN.out HDN.out (Nat.lt_of_lt_of_le HJ3.out HS2.out) (Nat.lt_of_lt_of_le HJ3.out HS2.out) HGE.out n35⟩
      | exact Lib.hid ⟨_, _, _, _, _, rfl, endB HBW.out HST.out g5 HK6.out HK5.out HN.out HDN.out HKB.out HKB.out HGE.out⟩
  go_region_with (first
    | (go_at_call_of 30 (Value.agg #[.bool b1, .slice a1 xs.length c1, .slice a2 ys.length c2])
       refine Calls.mono (C1.out _ HBX.out) ?_
       rintro e wP ⟨v, rfl, ⟨vn, vd, rfl, hn, hdn⟩, hbP⟩
       obtain ⟨a5P, c5P, rfl⟩ := hn.slice
       obtain ⟨a6P, c6P, rfl⟩ := hdn.slice
       have HNP := Lib.hid hn
       have HDP := Lib.hid hdn
       have HBX := Lib.hid (HBX.out.trans (hbP.mono HSX.out))
       have HSX := Lib.hid (Nat.le_trans HSX.out hbP.size)
       have q1 := block_of hbP q1
       have q2 := block_of hbP q2
       have HQ3 := Lib.hid (block_of hbP HQ3.out)
       have HBLP := Lib.hid hbP
       have x0 := cell_of_row _ _ 0 _ _ (0, 0) q1
       have x1 := cell_of_row _ _ 1 _ _ (0, 0) q1
       have x2 := cell_of_row _ _ 2 _ _ (0, 0) q1
       have y0 := cell_of_row _ _ 0 _ _ (0, 0) q2
       have y1 := cell_of_row _ _ 1 _ _ (0, 0) q2
       have y2 := cell_of_row _ _ 2 _ _ (0, 0) q2
       have f0 := frozen_of_row _ _ 0 _ _ q1
       have f1 := frozen_of_row _ _ 1 _ _ q1
       have f2 := frozen_of_row _ _ 2 _ _ q1
       have k0 := frozen_of_row _ _ 0 _ _ q2
       have k1 := frozen_of_row _ _ 1 _ _ q2
       have k2 := frozen_of_row _ _ 2 _ _ q2
       clear hn hdn hbP)
    | (go_at_call_of 30 (Value.agg #[.bool b2, .slice a3 us.length c3, .slice a4 vs.length c4])
       refine Calls.mono (C2.out _ HBX.out) ?_
       rintro e wQ ⟨v, rfl, ⟨vn, vd, rfl, hn, hdn⟩, hbQ⟩
       obtain ⟨a5Q, c5Q, rfl⟩ := hn.slice
       obtain ⟨a6Q, c6Q, rfl⟩ := hdn.slice
       have HNQ := Lib.hid hn
       have HDQ := Lib.hid hdn
       have HBX := Lib.hid (HBX.out.trans (hbQ.mono HSX.out))
       have HSX := Lib.hid (Nat.le_trans HSX.out hbQ.size)
       have q1 := block_of hbQ q1
       have q2 := block_of hbQ q2
       have HQ3 := Lib.hid (block_of hbQ HQ3.out)
       have HBLQ := Lib.hid hbQ
       have x0 := cell_of_row _ _ 0 _ _ (0, 0) q1
       have x1 := cell_of_row _ _ 1 _ _ (0, 0) q1
       have x2 := cell_of_row _ _ 2 _ _ (0, 0) q1
       have y0 := cell_of_row _ _ 0 _ _ (0, 0) q2
       have y1 := cell_of_row _ _ 1 _ _ (0, 0) q2
       have y2 := cell_of_row _ _ 2 _ _ (0, 0) q2
       have f0 := frozen_of_row _ _ 0 _ _ q1
       have f1 := frozen_of_row _ _ 1 _ _ q1
       have f2 := frozen_of_row _ _ 2 _ _ q1
       have k0 := frozen_of_row _ _ 0 _ _ q2
       have k1 := frozen_of_row _ _ 1 _ _ q2
       have k2 := frozen_of_row _ _ 2 _ _ q2
       clear hn hdn hbQ))
  all_goals go_wp2_with fail
  all_goals go_meet
  all_goals
    have hj := HJ1.out
    subst hj
    refine Lib.hid (two_fin q1 q2 HQ3.out hn1 HN3.out.2.2.1 HN3.out.2.1 HBX.out (Nat.le_refl _) HN3.out.1 HN3.out.2.2.2.1 HN3.out.2.2.2.2 (BP := W.drew.heap.size) (BQ := wP.drew.heap.size) ⟨_, _, rfl, HNP.out.below HBLQ.out, HDP.out.below HBLQ.out⟩ ⟨_, _, rfl, HNQ.out, HDQ.out⟩ HL3.out ?_)
    exact Nat.lt_of_lt_of_le HL3.out HBLP.out.size

end Go.Proofs.YthlpfhenaakljaaGreatDoor

namespace Go.Proofs.YthlpfhenaakljaaGreatDoor
open Go.RowKit

/-- The three blocks, and boxes beside them. -/
structure A5 (wc : World) (j1 j2 j3 : Nat) (c1 c2 : Array Value) (bx : List (Nat × Array Value)) (wx : World) : Prop where
  bel : Below wc.heap.size wc wx
  r1 : wx.heap[j1]? = some (.cells c1 27 (0, 0))
  r2 : wx.heap[j2]? = some (.cells c2 27 (0, 0))
  r3 : wx.heap[j3]? = some (.cells #[.bool false, .slice none 0 0, .slice none 0 0] 27 (0, 0))
  ex : ∀ p ∈ bx, wx.heap[p.1]? = some (.cells p.2 25 (0, 0))
theorem A5.alloc {wc wx : World} {j1 j2 j3 : Nat} {c1 c2 : Array Value} {bx : List (Nat × Array Value)} (h : A5 wc j1 j2 j3 c1 c2 bx wx) (o : Obj) : A5 wc j1 j2 j3 c1 c2 bx (wx.alloc o) :=
  ⟨h.bel.alloc h.bel.size _, (heap_alloc_old _ _ (heap_lt h.r1)).trans h.r1, (heap_alloc_old _ _ (heap_lt h.r2)).trans h.r2, (heap_alloc_old _ _ (heap_lt h.r3)).trans h.r3, fun p hp => (heap_alloc_old _ _ (heap_lt (h.ex p hp))).trans (h.ex p hp)⟩
theorem A5.call {wc wx wy : World} {j1 j2 j3 : Nat} {c1 c2 : Array Value} {bx : List (Nat × Array Value)} (h : A5 wc j1 j2 j3 c1 c2 bx wx) (hb : Below wx.heap.size wx wy) : A5 wc j1 j2 j3 c1 c2 bx wy :=
  ⟨h.bel.trans (hb.mono h.bel.size), block_of hb h.r1, block_of hb h.r2, block_of hb h.r3, fun p hp => block_of hb (h.ex p hp)⟩
theorem A5.drew {wc wx : World} {j1 j2 j3 : Nat} {c1 c2 : Array Value} {bx : List (Nat × Array Value)} (h : A5 wc j1 j2 j3 c1 c2 bx wx) : A5 wc j1 j2 j3 c1 c2 bx wx.drew := ⟨h.bel.drew, h.r1, h.r2, h.r3, h.ex⟩

/-- One more box, with a natural of its own; what else has been read stays. -/
def Up (wc : World) (j1 j2 j3 : Nat) (c1 c2 : Array Value) (bx : List (Nat × Array Value)) (k : Nat) (s : Bool) (R : List Nat) (wp wx : World) : Prop :=
  ∃ a c, A5 wc j1 j2 j3 c1 c2 ((k, #[.bool s, .slice a R.length c]) :: bx) wx ∧ Nv wx (.slice a R.length c) R ∧ wc.heap.size ≤ k ∧ Below wp.heap.size wp wx

theorem upA {wc wp w1 : World} {j1 j2 j3 : Nat} {s : Bool} {c1 c2 : Array Value} {bx : List (Nat × Array Value)} {a : Option Addr} {R : List Nat} {c : Nat} (h : A5 wc j1 j2 j3 c1 c2 bx w1) (hn : Nv w1 (.slice a R.length c) R) (hp : Below wp.heap.size wp w1) :
    Up wc j1 j2 j3 c1 c2 bx w1.heap.size s R wp (w1.alloc (.cells #[.bool s, .slice a R.length c] 25)) := by
  have h2 := h.alloc (.cells #[.bool s, .slice a R.length c] 25)
  refine ⟨a, c, ⟨h2.bel, h2.r1, h2.r2, h2.r3, fun p hp => ?_⟩, hn.alloc _, h.bel.size, hp.alloc hp.size _⟩
  rcases List.mem_cons.1 hp with rfl | hp
  · exact heap_alloc_new _ _
  · exact h2.ex p hp

theorem upB {wc wp w1 : World} {j1 j2 j3 k B : Nat} {s : Bool} {c1 c2 : Array Value} {u v : Value} {bx : List (Nat × Array Value)} {a : Option Addr} {R : List Nat} {c : Nat} (h : A5 wc j1 j2 j3 c1 c2 bx w1) (hn : No B w1 (.slice a R.length c) R)
    (g : w1.heap[k]? = some (.cells #[u, v] 25 (0, 0))) (hk : wc.heap.size ≤ k) (hkp : wp.heap.size ≤ k) (hj1 : j1 ≠ k) (hj2 : j2 ≠ k) (hj3 : j3 ≠ k) (hB : k < B) (hx : ∀ p ∈ bx, p.1 ≠ k) (hp : Below wp.heap.size wp w1) :
    Up wc j1 j2 j3 c1 c2 bx k s R wp ((w1.setCell ⟨k, 0, none⟩ (.bool s)).setCell ⟨k, 1, none⟩ (.slice a R.length c)) := by
  refine ⟨a, c, ⟨(h.bel.setCell hk _).setCell hk _, other2 h.r1 hj1 _ _, other2 h.r2 hj2 _ _, other2 h.r3 hj3 _ _, fun p hp => ?_⟩, (kept2 hn hB _ _).nv, hk, (hp.setCell hkp _).setCell hkp _⟩
  rcases List.mem_cons.1 hp with rfl | hp
  · exact stored2 g _ _
  · exact other2 (h.ex p hp) (hx p hp) _ _

theorem endD {w w3 : World} {j3 k B C : Nat} {u v x a b c : Value} {xs ys : List Nat} (hb : Below w.heap.size w w3) (h3 : w3.heap[j3]? = some (.cells #[.bool false, .slice none 0 0, .slice none 0 0] 27 (0, 0)))
    (g : w3.heap[k]? = some (.cells #[a, b, c] 27 (0, 0))) (hk : w.heap.size ≤ k) (hj : j3 < k)
    (hn : No B w3 v xs) (hd : No C w3 x ys) (hB : k < B) (hC : k < C) (hg : w.heap.size ≤ j3) : EndAt w j3 k u v x xs ys (((w3.setCell ⟨k, 0, none⟩ u).setCell ⟨k, 1, none⟩ v).setCell ⟨k, 2, none⟩ x) :=
  ⟨stored3 g _ _ _, other3 h3 (by omega) _ _ _, by omega, (filled3 hb (by omega) _ _ _).1, (kept3 hn hB _ _ _).mono (by omega), (kept3 hd hC _ _ _).mono (by omega), hg⟩

set_option maxHeartbeats 3200000 in
theorem add6_calls (b1 b2 : Bool) (m1 m2 m3 m4 : Value) (xs ys us vs : List Nat) (z1 z2 : Int) (d1 d2 : Nat) (w : World) (h1 : Nv w m1 xs) (h2 : Nv w m2 ys) (h3 : Nv w m3 us) (h4 : Nv w m4 vs)
    (l1 : xs.length ≤ 200) (l2 : ys.length ≤ 200) (l3 : us.length ≤ 200) (l4 : vs.length ≤ 200)
    (hz1 : z1 = redZ b1 (Dg.dv B64 xs) (Dg.dv B64 ys)) (hd1 : d1 = redD (Dg.dv B64 xs) (Dg.dv B64 ys)) (hz2 : z2 = redZ b2 (Dg.dv B64 us) (Dg.dv B64 vs)) (hd2 : d2 = redD (Dg.dv B64 us) (Dg.dv B64 vs)) :
    Calls Tryz.prog 14 #[.agg #[.bool b1, m1, m2], .agg #[.bool b2, m3, m4]] w (RetR (nrm (z1 * (d2 : Int) + z2 * (d1 : Int)) (d1 * d2)) (nrd (z1 * (d2 : Int) + z2 * (d1 : Int)) (d1 * d2)) w) := by
  obtain ⟨_, a1, c1, rfl, _, _⟩ := id h1
  obtain ⟨_, a2, c2, rfl, _, _⟩ := id h2
  obtain ⟨_, a3, c3, rfl, _, _⟩ := id h3
  obtain ⟨_, a4, c4, rfl, _, _⟩ := id h4
  have HL := Lib.hid (redLens6 b1 b2 h1 h2 h3 h4 l1 l2 l3 l4)
  have HD12 := Lib.hid (redPos b1 b2 h1 h2 h3 h4)
  have C1 := Lib.hid (fun wx (hb : Below w.heap.size w wx) => count6_calls b1 _ _ xs ys wx (h1.below hb) (h2.below hb) (by omega) (by omega))
  have C2 := Lib.hid (fun wx (hb : Below w.heap.size w wx) => count6_calls b2 _ _ us vs wx (h3.below hb) (h4.below hb) (by omega) (by omega))
  rw [← hz1, ← hd1] at C1
  rw [← hz2, ← hd2] at C2
  rw [← hz1, ← hd1, ← hz2, ← hd2] at HL
  rw [← hd1, ← hd2] at HD12
  clear h1 h2 h3 h4 hz1 hz2 hd1 hd2
  generalize hZ : nrm (z1 * (d2 : Int) + z2 * (d1 : Int)) (d1 * d2) = Z
  generalize hD : nrd (z1 * (d2 : Int) + z2 * (d1 : Int)) (d1 * d2) = D
  have HZ := Lib.hid hZ
  have HD := Lib.hid hD
  clear hZ hD
  go_enter Tryz.func14, Tryz.ntmps14
  go_upto_region 1 with fail
  obtain ⟨g1, g2, g3, hB0, hsz⟩ := three_blocks w (.cells #[.bool b1, .slice a1 xs.length c1, .slice a2 ys.length c2] 27) (.cells #[.bool b2, .slice a3 us.length c3, .slice a4 vs.length c4] 27) (.cells #[.bool false, .slice none 0 0, .slice none 0 0] 27)
  generalize ((w.alloc (.cells #[.bool b1, .slice a1 xs.length c1, .slice a2 ys.length c2] 27)).alloc (.cells #[.bool b2, .slice a3 us.length c3, .slice a4 vs.length c4] 27)).alloc (.cells #[.bool false, .slice none 0 0, .slice none 0 0] 27) = W at *
  have q1 : W.drew.heap[w.heap.size]? = _ := g1
  have q2 : W.drew.heap[w.heap.size + 1]? = _ := g2
  have HQ3 := Lib.hid (show W.drew.heap[w.heap.size + 1 + 1]? = _ from g3)
  have x0 := cell_of_row _ _ 0 _ _ (0, 0) g1
  have x1 := cell_of_row _ _ 1 _ _ (0, 0) g1
  have x2 := cell_of_row _ _ 2 _ _ (0, 0) g1
  have y0 := cell_of_row _ _ 0 _ _ (0, 0) g2
  have y1 := cell_of_row _ _ 1 _ _ (0, 0) g2
  have y2 := cell_of_row _ _ 2 _ _ (0, 0) g2
  have hn1 : w.heap.size ≠ w.heap.size + 1 := by omega
  have hn2 : w.heap.size + 1 ≠ w.heap.size := by omega
  have HBX := Lib.hid hB0.drew
  have HSX := Lib.hid (show w.heap.size ≤ W.drew.heap.size by have : W.drew.heap.size = W.heap.size := rfl; omega)
  have HL3 := Lib.hid hsz
  have HN3 := Lib.hid (show w.heap.size ≤ w.heap.size + 1 ∧ w.heap.size + 1 ≠ w.heap.size + 1 + 1 ∧ w.heap.size ≠ w.heap.size + 1 + 1 ∧ w.heap.size ≤ w.heap.size + 1 + 1 ∧ w.heap.size + 1 ≤ w.heap.size + 1 + 1 by omega)
  clear g1 g2 g3 hB0 hsz
  generalize w.heap.size + 1 + 1 = j3 at *
  generalize w.heap.size + 1 = j2 at *
  generalize hj1 : w.heap.size = j1 at *
  have HJ1 := Lib.hid hj1
  clear hj1
  go_cut [] (fun wx => Hid (TwoSt w j1 j2 j3 z1 z2 d1 d2 wx))
  case rest =>
    clear q1 q2 HQ3 x0 x1 x2 y0 y1 y2 HBX HSX HL3 C1 C2
    have hj := HJ1.out
    obtain ⟨a1, c1, a2, c2, a3, c3, a4, c4, q1, q2, q3, p1, p2, p3, p4, hb⟩ := hcut.out
    clear hcut
    have CM1 := Lib.hid (fun wy (hb : Bel wc wy) => mul2_calls _ _ _ _ wy (p1.nv.below hb) (p4.nv.below hb) (by have := HL.out; omega) (by have := HL.out; omega))
    rw [Dg.dv_db (by decide), Dg.dv_db (by decide)] at CM1
    have CM2 := Lib.hid (fun wy (hb : Bel wc wy) => mul2_calls _ _ _ _ wy (p3.nv.below hb) (p2.nv.below hb) (by have := HL.out; omega) (by have := HL.out; omega))
    rw [Dg.dv_db (by decide), Dg.dv_db (by decide)] at CM2
    have CN := Lib.hid (fun wy (hb : Bel wc wy) => mul2_calls _ _ _ _ wy (p2.nv.below hb) (p4.nv.below hb) (by have := HL.out; omega) (by have := HL.out; omega))
    rw [Dg.dv_db (by decide), Dg.dv_db (by decide)] at CN
    have HLA := Lib.hid (show (Dg.db B64 (z1.natAbs * d2)).length ≤ 402 from Nat.le_trans (db_mul_len HL.out.1 HL.out.2.2.2) (by omega))
    have HLB := Lib.hid (show (Dg.db B64 (z2.natAbs * d1)).length ≤ 402 from Nat.le_trans (db_mul_len HL.out.2.2.1 HL.out.2.1) (by omega))
    have HLM := Lib.hid (show (Dg.db B64 (z1 * (d2 : Int) + z2 * (d1 : Int)).natAbs).length ≤ 1024 from Nat.le_trans (sum_len (p := 402) (Nat.le_trans (by_len HL.out.1 HL.out.2.2.2) (by decide)) (Nat.le_trans (by_len HL.out.2.2.1 HL.out.2.1) (by decide))) (by decide))
    have HLD := Lib.hid (show (Dg.db B64 (d1 * d2)).length ≤ 1024 from Nat.le_trans (db_mul_len HL.out.2.1 HL.out.2.2.2) (by omega))
    have HD0 := Lib.hid (Nat.mul_ne_zero HD12.out.1 HD12.out.2)
    have KP := Lib.hid (fun wy v v' (hv : Nv wy v (Dg.db B64 (z1.natAbs * d2))) (hv' : Nv wy v' (Dg.db B64 (z2.natAbs * d1))) => plus6_calls (decide (z1 < 0)) (decide (z2 < 0)) v v' _ _ wy hv hv' (Nat.le_trans HLA.out (by decide)) (Nat.le_trans HLB.out (by decide)))
    rw [Dg.dv_db (by decide), Dg.dv_db (by decide), by_val, by_val] at KP
    generalize z1.natAbs * d2 = NA at *
    generalize z2.natAbs * d1 = NB at *
    generalize z1 * (d2 : Int) + z2 * (d1 : Int) = ZZ at *
    have HBW := Lib.hid hb
    have HGE := Lib.hid (show w.heap.size ≤ j3 by rw [hj]; exact HN3.out.2.2.2.1)
    generalize (Dg.db B64 z1.natAbs).length = n1 at *
    generalize (Dg.db B64 d1).length = n2 at *
    generalize (Dg.db B64 z2.natAbs).length = n3 at *
    generalize (Dg.db B64 d2).length = n4 at *
    generalize hs1 : decide (z1 < 0) = s1 at *
    generalize hs2 : decide (z2 < 0) = s2 at *
    clear hs1 hs2 p1 p2 p3 p4
    have HST := Lib.hid (show A5 wc j1 j2 j3 #[.bool s1, .slice a1 n1 c1, .slice a2 n2 c2] #[.bool s2, .slice a3 n3 c3, .slice a4 n4 c4] [] wc from ⟨Below.refl _ _, q1, q2, q3, fun p hp => by simp at hp⟩)
    clear q1 q2 q3 hb hj
    obtain ⟨wb, hwb⟩ : ∃ x : World, x = wc := ⟨_, rfl⟩
    have HST : Hid (A5 wb j1 j2 j3 #[.bool s1, .slice a1 n1 c1, .slice a2 n2 c2] #[.bool s2, .slice a3 n3 c3, .slice a4 n4 c4] [] wc) := Lib.hid (by rw [hwb]; exact HST.out)
    rw [← hwb] at CM1 CM2 CN HBW
    clear hwb
    have x0 := cell_of_row _ _ 0 _ _ (0, 0) HST.out.r1
    have x1 := cell_of_row _ _ 1 _ _ (0, 0) HST.out.r1
    have x2 := cell_of_row _ _ 2 _ _ (0, 0) HST.out.r1
    have y0 := cell_of_row _ _ 0 _ _ (0, 0) HST.out.r2
    have y1 := cell_of_row _ _ 1 _ _ (0, 0) HST.out.r2
    have y2 := cell_of_row _ _ 2 _ _ (0, 0) HST.out.r2
    have nj1w : j1 ≠ wc.heap.size := Nat.ne_of_lt (heap_lt HST.out.r1)
    have nj1v := Ne.symm nj1w
    have nj2w : j2 ≠ wc.heap.size := Nat.ne_of_lt (heap_lt HST.out.r2)
    have nj2v := Ne.symm nj2w
    have nj3w : j3 ≠ wc.heap.size := Nat.ne_of_lt (heap_lt HST.out.r3)
    have nj3v := Ne.symm nj3w
    go_upto_region 2 with fail
    go_cut [5] (fun v wx => Hid (∃ k, v = .pointer (some ⟨k, 0, none⟩) ∧ Up wb j1 j2 j3 #[.bool s1, .slice a1 n1 c1, .slice a2 n2 c2] #[.bool s2, .slice a3 n3 c3, .slice a4 n4 c4] [] k s1 (Dg.db B64 NA) wc wx))
    case rest =>
      obtain ⟨q5, rfl, ma, mc, HUP, hna, HGK, HBP⟩ := hcut.out
      have HNA := Lib.hid hna
      have HST := Lib.hid HUP
      clear hcut hna x0 x1 x2 y0 y1 y2 nj1w nj2w nj3w nj1v nj2v nj3v HUP HBP
      have x0 := cell_of_row _ _ 0 _ _ (0, 0) HST.out.r1
      have x1 := cell_of_row _ _ 1 _ _ (0, 0) HST.out.r1
      have x2 := cell_of_row _ _ 2 _ _ (0, 0) HST.out.r1
      have y0 := cell_of_row _ _ 0 _ _ (0, 0) HST.out.r2
      have y1 := cell_of_row _ _ 1 _ _ (0, 0) HST.out.r2
      have y2 := cell_of_row _ _ 2 _ _ (0, 0) HST.out.r2
      have nj1w : j1 ≠ wc.heap.size := Nat.ne_of_lt (heap_lt HST.out.r1)
      have nj1v := Ne.symm nj1w
      have nj2w : j2 ≠ wc.heap.size := Nat.ne_of_lt (heap_lt HST.out.r2)
      have nj2v := Ne.symm nj2w
      have nj3w : j3 ≠ wc.heap.size := Nat.ne_of_lt (heap_lt HST.out.r3)
      have nj3v := Ne.symm nj3w
      have nq5w : q5 ≠ wc.heap.size := Nat.ne_of_lt (heap_lt (HST.out.ex (q5, #[.bool s1, .slice ma (Dg.db B64 NA).length mc]) (by simp)))
      have nq5v := Ne.symm nq5w
      go_upto_region 3 with fail
      go_cut [6] (fun v wx => Hid (∃ k, v = .pointer (some ⟨k, 0, none⟩) ∧ Up wb j1 j2 j3 #[.bool s1, .slice a1 n1 c1, .slice a2 n2 c2] #[.bool s2, .slice a3 n3 c3, .slice a4 n4 c4] [(q5, #[.bool s1, .slice ma (Dg.db B64 NA).length mc])] k s2 (Dg.db B64 NB) wc wx))
      case rest =>
        obtain ⟨q6, rfl, na, nc, HUP, hnb, HGK, HBP⟩ := hcut.out
        have HNB := Lib.hid hnb
        have HNA := Lib.hid (HNA.out.below HBP)
        have HST := Lib.hid HUP
        clear hcut hnb x0 x1 x2 y0 y1 y2 nj1w nj2w nj3w nq5w nj1v nj2v nj3v nq5v HUP HBP
        have x0 := cell_of_row _ _ 0 _ _ (0, 0) HST.out.r1
        have x1 := cell_of_row _ _ 1 _ _ (0, 0) HST.out.r1
        have x2 := cell_of_row _ _ 2 _ _ (0, 0) HST.out.r1
        have y0 := cell_of_row _ _ 0 _ _ (0, 0) HST.out.r2
        have y1 := cell_of_row _ _ 1 _ _ (0, 0) HST.out.r2
        have y2 := cell_of_row _ _ 2 _ _ (0, 0) HST.out.r2
        have p0 := cell_of_row _ _ 0 _ _ (0, 0) (HST.out.ex (q5, #[.bool s1, .slice ma (Dg.db B64 NA).length mc]) (by simp))
        have p1 := cell_of_row _ _ 1 _ _ (0, 0) (HST.out.ex (q5, #[.bool s1, .slice ma (Dg.db B64 NA).length mc]) (by simp))
        have q0 := cell_of_row _ _ 0 _ _ (0, 0) (HST.out.ex (q6, #[.bool s2, .slice na (Dg.db B64 NB).length nc]) (by simp))
        have q1 := cell_of_row _ _ 1 _ _ (0, 0) (HST.out.ex (q6, #[.bool s2, .slice na (Dg.db B64 NB).length nc]) (by simp))
        have nj1w : j1 ≠ wc.heap.size := Nat.ne_of_lt (heap_lt HST.out.r1)
        have nj1v := Ne.symm nj1w
        have nj2w : j2 ≠ wc.heap.size := Nat.ne_of_lt (heap_lt HST.out.r2)
        have nj2v := Ne.symm nj2w
        have nj3w : j3 ≠ wc.heap.size := Nat.ne_of_lt (heap_lt HST.out.r3)
        have nj3v := Ne.symm nj3w
        have nq5w : q5 ≠ wc.heap.size := Nat.ne_of_lt (heap_lt (HST.out.ex (q5, #[.bool s1, .slice ma (Dg.db B64 NA).length mc]) (by simp)))
        have nq5v := Ne.symm nq5w
        have nq6w : q6 ≠ wc.heap.size := Nat.ne_of_lt (heap_lt (HST.out.ex (q6, #[.bool s2, .slice na (Dg.db B64 NB).length nc]) (by simp)))
        have nq6v := Ne.symm nq6w
        go_upto_region 4 with fail
        go_cut [7] (fun v wx => Hid (∃ k a9 c9 aA cA, v = .pointer (some ⟨k, 0, none⟩) ∧ EndAt w j3 k (.bool (decide (Z < 0))) (.slice a9 (Dg.db B64 Z.natAbs).length c9) (.slice aA (Dg.db B64 D).length cA) (Dg.db B64 Z.natAbs) (Dg.db B64 D) wx))
        case rest =>
          obtain ⟨k, a9, c9, aA, cA, rfl, hE⟩ := hcut.out
          have HE := Lib.hid hE
          have e0 := frozen_of_row _ _ 0 _ _ hE.g
          have r0 := cell_of_row _ _ 0 _ _ (0, 0) hE.g
          have t0 := frozen_of_row _ _ 0 _ _ hE.r3
          have v0 := cell_of_row _ _ 0 _ _ (0, 0) hE.r3
          have e1 := frozen_of_row _ _ 1 _ _ hE.g
          have r1 := cell_of_row _ _ 1 _ _ (0, 0) hE.g
          have t1 := frozen_of_row _ _ 1 _ _ hE.r3
          have v1 := cell_of_row _ _ 1 _ _ (0, 0) hE.r3
          have e2 := frozen_of_row _ _ 2 _ _ hE.g
          have r2 := cell_of_row _ _ 2 _ _ (0, 0) hE.g
          have t2 := frozen_of_row _ _ 2 _ _ hE.r3
          have v2 := cell_of_row _ _ 2 _ _ (0, 0) hE.r3
          have n35 := hE.ne
          have n53 := Ne.symm n35
          clear hE hcut x0 x1 x2 y0 y1 y2 p0 p1 q0 q1
          go_wp2_with fail
          refine ret_row rfl _ _ j3 27 _ (0, 0) rfl (stored3 HE.out.r3 _ _ _) und_Rat size_Rat ?_
          exact ⟨_, rfl, ⟨_, _, rfl, (filled3 HE.out.bel HE.out.ge _ _ _).2 _ _ _ (Nat.lt_succ_self _) HE.out.hn, (filled3 HE.out.bel HE.out.ge _ _ _).2 _ _ _ (Nat.lt_succ_self _) HE.out.hd⟩, (filled3 HE.out.bel HE.out.ge _ _ _).1⟩
        go_region_held3 (fun w' => w'.cell? ⟨j1, 0, none⟩ = some (.bool s1) ∧ w'.cell? ⟨j1, 1, none⟩ = some (.slice a1 n1 c1) ∧ w'.cell? ⟨j1, 2, none⟩ = some (.slice a2 n2 c2) ∧ w'.cell? ⟨j2, 0, none⟩ = some (.bool s2) ∧ w'.cell? ⟨j2, 1, none⟩ = some (.slice a3 n3 c3) ∧ w'.cell? ⟨j2, 2, none⟩ = some (.slice a4 n4 c4) ∧ w'.cell? ⟨q5, 0, none⟩ = some (.bool s1) ∧ w'.cell? ⟨q5, 1, none⟩ = some (.slice ma (Dg.db B64 NA).length mc) ∧ w'.cell? ⟨q6, 0, none⟩ = some (.bool s2) ∧ w'.cell? ⟨q6, 1, none⟩ = some (.slice na (Dg.db B64 NB).length nc)) (go_keep)
          (first
                | (go_at_call 41
                   refine Calls.mono (KP.out _ _ _ (by first | exact HNA.out | exact HNA.out.drew | exact HNA.out.alloc _ | exact (Nv.alloc HNA.out _).drew) (by first | exact HNB.out | exact HNB.out.drew | exact HNB.out.alloc _ | exact (Nv.alloc HNB.out _).drew)) ?_
                   rintro e w1 ⟨v, rfl, hno, hb⟩
                   obtain ⟨a7, c7, rfl⟩ := hno.slice
                   have HNW := Lib.hid hno.nv
                   clear hno
                   have HSTP := Lib.hid HST.out
                   have HST := Lib.hid (A5.call (by first | exact HST.out | exact HST.out.drew | exact HST.out.alloc _ | exact (HST.out.alloc _).drew) hb)
                   first
                     | (have g5 := block_of hb g5
                        have HK8 := Lib.hid (Nat.lt_of_lt_of_le HK8.out hb.size))
                     | (have g5 := block_of hb (heap_alloc_new wc _)
                        have nj1k : j1 ≠ wc.heap.size := Nat.ne_of_lt (heap_lt HSTP.out.r1)
                        have nj1l := Ne.symm nj1k
                        have nj2k : j2 ≠ wc.heap.size := Nat.ne_of_lt (heap_lt HSTP.out.r2)
                        have nj2l := Ne.symm nj2k
                        have nj3k : j3 ≠ wc.heap.size := Nat.ne_of_lt (heap_lt HSTP.out.r3)
                        have nj3l := Ne.symm nj3k
                        have nq5k : q5 ≠ wc.heap.size := Nat.ne_of_lt (heap_lt (HSTP.out.ex (q5, #[.bool s1, .slice ma (Dg.db B64 NA).length mc]) (by simp)))
                        have nq5l := Ne.symm nq5k
                        have nq6k : q6 ≠ wc.heap.size := Nat.ne_of_lt (heap_lt (HSTP.out.ex (q6, #[.bool s2, .slice na (Dg.db B64 NB).length nc]) (by simp)))
                        have nq6l := Ne.symm nq6k
                        have HKB := Lib.hid (show wc.heap.size < (wc.alloc (.cells #[.bool false, .slice none 0 0, .slice none 0 0] 27)).heap.size by simp)
                        have HK8 := Lib.hid (Nat.lt_of_lt_of_le HKB.out hb.size)
                        have HK5 := Lib.hid (show wb.heap.size ≤ wc.heap.size from HSTP.out.bel.size)
                        have HK6 := Lib.hid (show w.heap.size ≤ wc.heap.size from Nat.le_trans HBW.out.size HSTP.out.bel.size)
                        have HK7 := Lib.hid (show j3 < wc.heap.size from heap_lt HSTP.out.r3)
                        have HK9 := Lib.hid (show wc.heap.size ≤ wc.heap.size from Nat.le_refl _)
                        generalize hk5 : wc.heap.size = k5 at *
                        have HKE := Lib.hid hk5
                        clear hk5)
                     | skip
                   have x0 := cell_of_row _ _ 0 _ _ (0, 0) HST.out.r1
                   have x1 := cell_of_row _ _ 1 _ _ (0, 0) HST.out.r1
                   have x2 := cell_of_row _ _ 2 _ _ (0, 0) HST.out.r1
                   have y0 := cell_of_row _ _ 0 _ _ (0, 0) HST.out.r2
                   have y1 := cell_of_row _ _ 1 _ _ (0, 0) HST.out.r2
                   have y2 := cell_of_row _ _ 2 _ _ (0, 0) HST.out.r2
                   have p0 := cell_of_row _ _ 0 _ _ (0, 0) (HST.out.ex (q5, #[.bool s1, .slice ma (Dg.db B64 NA).length mc]) (by simp))
                   have p1 := cell_of_row _ _ 1 _ _ (0, 0) (HST.out.ex (q5, #[.bool s1, .slice ma (Dg.db B64 NA).length mc]) (by simp))
                   have q0 := cell_of_row _ _ 0 _ _ (0, 0) (HST.out.ex (q6, #[.bool s2, .slice na (Dg.db B64 NB).length nc]) (by simp))
                   have q1 := cell_of_row _ _ 1 _ _ (0, 0) (HST.out.ex (q6, #[.bool s2, .slice na (Dg.db B64 NB).length nc]) (by simp))
                   clear hb HSTP)
                | (go_at_call 39
                   refine Calls.mono (CN.out _ (by first | exact HST.out.bel | exact HST.out.drew.bel | exact (HST.out.alloc _).bel | exact (HST.out.alloc _).drew.bel)) ?_
                   rintro e w2 ⟨v, rfl, hno, hb⟩
                   obtain ⟨a8, c8, rfl⟩ := hno.slice
                   have HNN := Lib.hid hno.nv
                   clear hno
                   have HNW := Lib.hid (Nv.below (by first | exact HNW.out | exact HNW.out.drew | exact HNW.out.alloc _ | exact (Nv.alloc HNW.out _).drew) hb)
                   have HSTP := Lib.hid HST.out
                   have HST := Lib.hid (A5.call (by first | exact HST.out | exact HST.out.drew | exact HST.out.alloc _ | exact (HST.out.alloc _).drew) hb)
                   first
                     | (have g5 := block_of hb g5
                        have HK8 := Lib.hid (Nat.lt_of_lt_of_le HK8.out hb.size))
                     | (have g5 := block_of hb (heap_alloc_new w1 _)
                        have nj1k : j1 ≠ w1.heap.size := Nat.ne_of_lt (heap_lt HSTP.out.r1)
                        have nj1l := Ne.symm nj1k
                        have nj2k : j2 ≠ w1.heap.size := Nat.ne_of_lt (heap_lt HSTP.out.r2)
                        have nj2l := Ne.symm nj2k
                        have nj3k : j3 ≠ w1.heap.size := Nat.ne_of_lt (heap_lt HSTP.out.r3)
                        have nj3l := Ne.symm nj3k
                        have nq5k : q5 ≠ w1.heap.size := Nat.ne_of_lt (heap_lt (HSTP.out.ex (q5, #[.bool s1, .slice ma (Dg.db B64 NA).length mc]) (by simp)))
                        have nq5l := Ne.symm nq5k
                        have nq6k : q6 ≠ w1.heap.size := Nat.ne_of_lt (heap_lt (HSTP.out.ex (q6, #[.bool s2, .slice na (Dg.db B64 NB).length nc]) (by simp)))
                        have nq6l := Ne.symm nq6k
                        have HKB := Lib.hid (show w1.heap.size < (w1.alloc (.cells #[.bool false, .slice none 0 0, .slice none 0 0] 27)).heap.size by simp)
                        have HK8 := Lib.hid (Nat.lt_of_lt_of_le HKB.out hb.size)
                        have HK5 := Lib.hid (show wb.heap.size ≤ w1.heap.size from HSTP.out.bel.size)
                        have HK6 := Lib.hid (show w.heap.size ≤ w1.heap.size from Nat.le_trans HBW.out.size HSTP.out.bel.size)
                        have HK7 := Lib.hid (show j3 < w1.heap.size from heap_lt HSTP.out.r3)
                        have HK9 := Lib.hid (show w1.heap.size ≤ w1.heap.size from Nat.le_refl _)
                        generalize hk5 : w1.heap.size = k5 at *
                        have HKE := Lib.hid hk5
                        clear hk5)
                     | skip
                   have x0 := cell_of_row _ _ 0 _ _ (0, 0) HST.out.r1
                   have x1 := cell_of_row _ _ 1 _ _ (0, 0) HST.out.r1
                   have x2 := cell_of_row _ _ 2 _ _ (0, 0) HST.out.r1
                   have y0 := cell_of_row _ _ 0 _ _ (0, 0) HST.out.r2
                   have y1 := cell_of_row _ _ 1 _ _ (0, 0) HST.out.r2
                   have y2 := cell_of_row _ _ 2 _ _ (0, 0) HST.out.r2
                   have p0 := cell_of_row _ _ 0 _ _ (0, 0) (HST.out.ex (q5, #[.bool s1, .slice ma (Dg.db B64 NA).length mc]) (by simp))
                   have p1 := cell_of_row _ _ 1 _ _ (0, 0) (HST.out.ex (q5, #[.bool s1, .slice ma (Dg.db B64 NA).length mc]) (by simp))
                   have q0 := cell_of_row _ _ 0 _ _ (0, 0) (HST.out.ex (q6, #[.bool s2, .slice na (Dg.db B64 NB).length nc]) (by simp))
                   have q1 := cell_of_row _ _ 1 _ _ (0, 0) (HST.out.ex (q6, #[.bool s2, .slice na (Dg.db B64 NB).length nc]) (by simp))
                   clear hb HSTP)
                | (go_at_call 40
                   refine Calls.mono (make6_calls _ _ _ _ _ _ (by first | exact HNW.out | exact HNW.out.drew | exact HNW.out.alloc _ | exact (Nv.alloc HNW.out _).drew) (by first | exact HNN.out | exact HNN.out.drew | exact HNN.out.alloc _ | exact (Nv.alloc HNN.out _).drew) HLM.out HLD.out) ?_
                   rintro e w3 ⟨hb, _, hq⟩
                   have HJ2 := Lib.hid (show j3 < w2.heap.size from heap_lt HST.out.r3)
                   rw [Dg.dv_db (by decide), Dg.dv_db (by decide)] at hq
                   obtain ⟨v, rfl, hr⟩ := hq HD0.out
                   rw [(rr_nrm HD0.out).1, (rr_nrm HD0.out).2, HZ.out, HD.out] at hr
                   obtain ⟨vn, vd, rfl, hn, hdn⟩ := hr
                   obtain ⟨a9, c9, rfl⟩ := hn.slice
                   obtain ⟨aA, cA, rfl⟩ := hdn.slice
                   have HN := Lib.hid hn
                   have HDN := Lib.hid hdn
                   clear hq hn hdn
                   try have HKB := HK8
                   have HSTP := Lib.hid HST.out
                   have HST := Lib.hid (A5.call (by first | exact HST.out | exact HST.out.drew | exact HST.out.alloc _ | exact (HST.out.alloc _).drew) hb)
                   first
                     | (have g5 := block_of hb g5
                        have HK8 := Lib.hid (Nat.lt_of_lt_of_le HK8.out hb.size))
                     | (have g5 := block_of hb (heap_alloc_new w2 _)
                        have nj1k : j1 ≠ w2.heap.size := Nat.ne_of_lt (heap_lt HSTP.out.r1)
                        have nj1l := Ne.symm nj1k
                        have nj2k : j2 ≠ w2.heap.size := Nat.ne_of_lt (heap_lt HSTP.out.r2)
                        have nj2l := Ne.symm nj2k
                        have nj3k : j3 ≠ w2.heap.size := Nat.ne_of_lt (heap_lt HSTP.out.r3)
                        have nj3l := Ne.symm nj3k
                        have nq5k : q5 ≠ w2.heap.size := Nat.ne_of_lt (heap_lt (HSTP.out.ex (q5, #[.bool s1, .slice ma (Dg.db B64 NA).length mc]) (by simp)))
                        have nq5l := Ne.symm nq5k
                        have nq6k : q6 ≠ w2.heap.size := Nat.ne_of_lt (heap_lt (HSTP.out.ex (q6, #[.bool s2, .slice na (Dg.db B64 NB).length nc]) (by simp)))
                        have nq6l := Ne.symm nq6k
                        have HKB := Lib.hid (show w2.heap.size < (w2.alloc (.cells #[.bool false, .slice none 0 0, .slice none 0 0] 27)).heap.size by simp)
                        have HK8 := Lib.hid (Nat.lt_of_lt_of_le HKB.out hb.size)
                        have HK5 := Lib.hid (show wb.heap.size ≤ w2.heap.size from HSTP.out.bel.size)
                        have HK6 := Lib.hid (show w.heap.size ≤ w2.heap.size from Nat.le_trans HBW.out.size HSTP.out.bel.size)
                        have HK7 := Lib.hid (show j3 < w2.heap.size from heap_lt HSTP.out.r3)
                        have HK9 := Lib.hid (show w2.heap.size ≤ w2.heap.size from Nat.le_refl _)
                        generalize hk5 : w2.heap.size = k5 at *
                        have HKE := Lib.hid hk5
                        clear hk5)
                     | skip
                   first
                     | (have hgg := g5
                        clear hgg)
                     | (have g5 := heap_alloc_new w3 (.cells #[.bool false, .slice none 0 0, .slice none 0 0] 27)
                        have nj1k : j1 ≠ w3.heap.size := Nat.ne_of_lt (heap_lt HST.out.r1)
                        have nj1l := Ne.symm nj1k
                        have nj2k : j2 ≠ w3.heap.size := Nat.ne_of_lt (heap_lt HST.out.r2)
                        have nj2l := Ne.symm nj2k
                        have nj3k : j3 ≠ w3.heap.size := Nat.ne_of_lt (heap_lt HST.out.r3)
                        have nj3l := Ne.symm nj3k
                        have nq5k : q5 ≠ w3.heap.size := Nat.ne_of_lt (heap_lt (HST.out.ex (q5, #[.bool s1, .slice ma (Dg.db B64 NA).length mc]) (by simp)))
                        have nq5l := Ne.symm nq5k
                        have nq6k : q6 ≠ w3.heap.size := Nat.ne_of_lt (heap_lt (HST.out.ex (q6, #[.bool s2, .slice na (Dg.db B64 NB).length nc]) (by simp)))
                        have nq6l := Ne.symm nq6k
                        have HK6 := Lib.hid (show w.heap.size ≤ w3.heap.size from Nat.le_trans HBW.out.size HST.out.bel.size))
                   have e0 := frozen_of_row _ _ 0 _ _ g5
                   have r0 := cell_of_row _ _ 0 _ _ (0, 0) g5
                   have e1 := frozen_of_row _ _ 1 _ _ g5
                   have r1 := cell_of_row _ _ 1 _ _ (0, 0) g5
                   have e2 := frozen_of_row _ _ 2 _ _ g5
                   have r2 := cell_of_row _ _ 2 _ _ (0, 0) g5
                   have x0 := cell_of_row _ _ 0 _ _ (0, 0) HST.out.r1
                   have x1 := cell_of_row _ _ 1 _ _ (0, 0) HST.out.r1
                   have x2 := cell_of_row _ _ 2 _ _ (0, 0) HST.out.r1
                   have y0 := cell_of_row _ _ 0 _ _ (0, 0) HST.out.r2
                   have y1 := cell_of_row _ _ 1 _ _ (0, 0) HST.out.r2
                   have y2 := cell_of_row _ _ 2 _ _ (0, 0) HST.out.r2
                   have p0 := cell_of_row _ _ 0 _ _ (0, 0) (HST.out.ex (q5, #[.bool s1, .slice ma (Dg.db B64 NA).length mc]) (by simp))
                   have p1 := cell_of_row _ _ 1 _ _ (0, 0) (HST.out.ex (q5, #[.bool s1, .slice ma (Dg.db B64 NA).length mc]) (by simp))
                   have q0 := cell_of_row _ _ 0 _ _ (0, 0) (HST.out.ex (q6, #[.bool s2, .slice na (Dg.db B64 NB).length nc]) (by simp))
                   have q1 := cell_of_row _ _ 1 _ _ (0, 0) (HST.out.ex (q6, #[.bool s2, .slice na (Dg.db B64 NB).length nc]) (by simp))
                   clear hb HSTP))
        all_goals go_wp2_with fail
        all_goals go_meet
        all_goals have HBE := Lib.hid (HBW.out.trans (HST.out.bel.mono HBW.out.size))
        all_goals first
          | exact Lib.hid ⟨_, _, _, _, _, rfl, endC HBE.out HST.out.r3 HN.out HDN.out HJ2.out HJ2.out HGE.out⟩
          | exact Lib.hid ⟨_, _, _, _, _, rfl, endD HBE.out HST.out.r3 g5 HK6.out HK7.out HN.out HDN.out HKB.out HKB.out HGE.out⟩
      have HPP := Lib.hid (show ∀ wx, Below wc.heap.size wc wx → Below wc.heap.size wc wx from fun _ h => h)
      have HBPC := Lib.hid (Below.refl wc.heap.size wc)
      go_region_held3 (fun w' => w'.cell? ⟨j1, 0, none⟩ = some (.bool s1) ∧ w'.cell? ⟨j1, 1, none⟩ = some (.slice a1 n1 c1) ∧ w'.cell? ⟨j1, 2, none⟩ = some (.slice a2 n2 c2) ∧ w'.cell? ⟨j2, 0, none⟩ = some (.bool s2) ∧ w'.cell? ⟨j2, 1, none⟩ = some (.slice a3 n3 c3) ∧ w'.cell? ⟨j2, 2, none⟩ = some (.slice a4 n4 c4)) (go_keep)
        (first
              | (go_at_call_of 39 (Value.slice a3 n3 c3)
                 refine Calls.mono (CM2.out _ (by first | exact HST.out.bel | exact HST.out.drew.bel | exact (HST.out.alloc _).bel | exact (HST.out.alloc _).drew.bel)) ?_
                 rintro e w1 ⟨v, rfl, hno, hb⟩
                 obtain ⟨a7, c7, rfl⟩ := hno.slice
                 have HNo := Lib.hid hno
                 have HBPC := Lib.hid ((by first | exact hb | exact HBPC.out.drew.trans hb | exact (HBPC.out.alloc (Nat.le_refl _) _).trans (hb.mono (by rw [World.size_alloc]; omega)) | exact (HBPC.out.alloc (Nat.le_refl _) _).drew.trans (hb.mono (by show _ ≤ (World.alloc _ _).heap.size; rw [World.size_alloc]; omega)) : Below wc.heap.size wc w1))
                 clear hno
                 have HSTP := Lib.hid HST.out
                 have HST := Lib.hid (A5.call (by first | exact HST.out | exact HST.out.drew | exact HST.out.alloc _ | exact (HST.out.alloc _).drew) hb)
                 first
                   | (have g5 := block_of hb g5
                      have HK8 := Lib.hid (Nat.lt_of_lt_of_le HK8.out hb.size))
                   | (have g5 := block_of hb (heap_alloc_new wc _)
                      have nj1k : j1 ≠ wc.heap.size := Nat.ne_of_lt (heap_lt HSTP.out.r1)
                      have nj1l := Ne.symm nj1k
                      have nj2k : j2 ≠ wc.heap.size := Nat.ne_of_lt (heap_lt HSTP.out.r2)
                      have nj2l := Ne.symm nj2k
                      have nj3k : j3 ≠ wc.heap.size := Nat.ne_of_lt (heap_lt HSTP.out.r3)
                      have nj3l := Ne.symm nj3k
                      have nq5k : q5 ≠ wc.heap.size := Nat.ne_of_lt (heap_lt (HSTP.out.ex (q5, #[.bool s1, .slice ma (Dg.db B64 NA).length mc]) (by simp)))
                      have nq5l := Ne.symm nq5k
                      have HKB := Lib.hid (show wc.heap.size < (wc.alloc (.cells #[.bool false, .slice none 0 0] 25)).heap.size by simp)
                      have HK8 := Lib.hid (Nat.lt_of_lt_of_le HKB.out hb.size)
                      have HK5 := Lib.hid (show wb.heap.size ≤ wc.heap.size from HSTP.out.bel.size)
                      have HK6 := Lib.hid (show w.heap.size ≤ wc.heap.size from Nat.le_trans HBW.out.size HSTP.out.bel.size)
                      have HK7 := Lib.hid (show j3 < wc.heap.size from heap_lt HSTP.out.r3)
                      have HK9 := Lib.hid (show wc.heap.size ≤ wc.heap.size from Nat.le_refl _)
                      generalize hk5 : wc.heap.size = k5 at *
                      have HKE := Lib.hid hk5
                      clear hk5)
                   | skip
                 first
                   | (have hgg := g5
                      clear hgg)
                   | (have g5 := heap_alloc_new w1 (.cells #[.bool false, .slice none 0 0] 25)
                      have nj1k : j1 ≠ w1.heap.size := Nat.ne_of_lt (heap_lt HST.out.r1)
                      have nj1l := Ne.symm nj1k
                      have nj2k : j2 ≠ w1.heap.size := Nat.ne_of_lt (heap_lt HST.out.r2)
                      have nj2l := Ne.symm nj2k
                      have nj3k : j3 ≠ w1.heap.size := Nat.ne_of_lt (heap_lt HST.out.r3)
                      have nj3l := Ne.symm nj3k
                      have nq5k : q5 ≠ w1.heap.size := Nat.ne_of_lt (heap_lt (HST.out.ex (q5, #[.bool s1, .slice ma (Dg.db B64 NA).length mc]) (by simp)))
                      have nq5l := Ne.symm nq5k
                      have HK6 := Lib.hid (show w.heap.size ≤ w1.heap.size from Nat.le_trans HBW.out.size HST.out.bel.size))
                 have e0 := frozen_of_row _ _ 0 _ _ g5
                 have r0 := cell_of_row _ _ 0 _ _ (0, 0) g5
                 have e1 := frozen_of_row _ _ 1 _ _ g5
                 have r1 := cell_of_row _ _ 1 _ _ (0, 0) g5
                 have x0 := cell_of_row _ _ 0 _ _ (0, 0) HST.out.r1
                 have x1 := cell_of_row _ _ 1 _ _ (0, 0) HST.out.r1
                 have x2 := cell_of_row _ _ 2 _ _ (0, 0) HST.out.r1
                 have y0 := cell_of_row _ _ 0 _ _ (0, 0) HST.out.r2
                 have y1 := cell_of_row _ _ 1 _ _ (0, 0) HST.out.r2
                 have y2 := cell_of_row _ _ 2 _ _ (0, 0) HST.out.r2
                 clear hb HSTP))
      all_goals go_wp2_with fail
      all_goals go_meet
      all_goals first
        | exact Lib.hid ⟨_, rfl, upA HST.out HNo.out.nv HBPC.out⟩
        | exact Lib.hid ⟨_, rfl, upB HST.out HNo.out g5 HK5.out (Nat.le_of_eq HKE.out) nj1k nj2k nj3k HKB.out (fun p hp => by rw [List.mem_singleton.1 hp]; exact nq5k) (by rw [HKE.out]; exact HBPC.out)⟩
    have HPP := Lib.hid (show ∀ wx, Below wc.heap.size wc wx → Below wc.heap.size wc wx from fun _ h => h)
    have HBPC := Lib.hid (Below.refl wc.heap.size wc)
    go_region_held3 (fun w' => w'.cell? ⟨j1, 0, none⟩ = some (.bool s1) ∧ w'.cell? ⟨j1, 1, none⟩ = some (.slice a1 n1 c1) ∧ w'.cell? ⟨j1, 2, none⟩ = some (.slice a2 n2 c2) ∧ w'.cell? ⟨j2, 0, none⟩ = some (.bool s2) ∧ w'.cell? ⟨j2, 1, none⟩ = some (.slice a3 n3 c3) ∧ w'.cell? ⟨j2, 2, none⟩ = some (.slice a4 n4 c4)) (go_keep)
      (first
            | (go_at_call_of 39 (Value.slice a1 n1 c1)
               refine Calls.mono (CM1.out _ (by first | exact HST.out.bel | exact HST.out.drew.bel | exact (HST.out.alloc _).bel | exact (HST.out.alloc _).drew.bel)) ?_
               rintro e w1 ⟨v, rfl, hno, hb⟩
               obtain ⟨a7, c7, rfl⟩ := hno.slice
               have HNo := Lib.hid hno
               have HBPC := Lib.hid ((by first | exact hb | exact HBPC.out.drew.trans hb | exact (HBPC.out.alloc (Nat.le_refl _) _).trans (hb.mono (by rw [World.size_alloc]; omega)) | exact (HBPC.out.alloc (Nat.le_refl _) _).drew.trans (hb.mono (by show _ ≤ (World.alloc _ _).heap.size; rw [World.size_alloc]; omega)) : Below wc.heap.size wc w1))
               clear hno
               have HSTP := Lib.hid HST.out
               have HST := Lib.hid (A5.call (by first | exact HST.out | exact HST.out.drew | exact HST.out.alloc _ | exact (HST.out.alloc _).drew) hb)
               first
                 | (have g5 := block_of hb g5
                    have HK8 := Lib.hid (Nat.lt_of_lt_of_le HK8.out hb.size))
                 | (have g5 := block_of hb (heap_alloc_new wc _)
                    have nj1k : j1 ≠ wc.heap.size := Nat.ne_of_lt (heap_lt HSTP.out.r1)
                    have nj1l := Ne.symm nj1k
                    have nj2k : j2 ≠ wc.heap.size := Nat.ne_of_lt (heap_lt HSTP.out.r2)
                    have nj2l := Ne.symm nj2k
                    have nj3k : j3 ≠ wc.heap.size := Nat.ne_of_lt (heap_lt HSTP.out.r3)
                    have nj3l := Ne.symm nj3k
                    have HKB := Lib.hid (show wc.heap.size < (wc.alloc (.cells #[.bool false, .slice none 0 0] 25)).heap.size by simp)
                    have HK8 := Lib.hid (Nat.lt_of_lt_of_le HKB.out hb.size)
                    have HK5 := Lib.hid (show wb.heap.size ≤ wc.heap.size from HSTP.out.bel.size)
                    have HK6 := Lib.hid (show w.heap.size ≤ wc.heap.size from Nat.le_trans HBW.out.size HSTP.out.bel.size)
                    have HK7 := Lib.hid (show j3 < wc.heap.size from heap_lt HSTP.out.r3)
                    have HK9 := Lib.hid (show wc.heap.size ≤ wc.heap.size from Nat.le_refl _)
                    generalize hk5 : wc.heap.size = k5 at *
                    have HKE := Lib.hid hk5
                    clear hk5)
                 | skip
               first
                 | (have hgg := g5
                    clear hgg)
                 | (have g5 := heap_alloc_new w1 (.cells #[.bool false, .slice none 0 0] 25)
                    have nj1k : j1 ≠ w1.heap.size := Nat.ne_of_lt (heap_lt HST.out.r1)
                    have nj1l := Ne.symm nj1k
                    have nj2k : j2 ≠ w1.heap.size := Nat.ne_of_lt (heap_lt HST.out.r2)
                    have nj2l := Ne.symm nj2k
                    have nj3k : j3 ≠ w1.heap.size := Nat.ne_of_lt (heap_lt HST.out.r3)
                    have nj3l := Ne.symm nj3k
                    have HK6 := Lib.hid (show w.heap.size ≤ w1.heap.size from Nat.le_trans HBW.out.size HST.out.bel.size))
               have e0 := frozen_of_row _ _ 0 _ _ g5
               have r0 := cell_of_row _ _ 0 _ _ (0, 0) g5
               have e1 := frozen_of_row _ _ 1 _ _ g5
               have r1 := cell_of_row _ _ 1 _ _ (0, 0) g5
               have x0 := cell_of_row _ _ 0 _ _ (0, 0) HST.out.r1
               have x1 := cell_of_row _ _ 1 _ _ (0, 0) HST.out.r1
               have x2 := cell_of_row _ _ 2 _ _ (0, 0) HST.out.r1
               have y0 := cell_of_row _ _ 0 _ _ (0, 0) HST.out.r2
               have y1 := cell_of_row _ _ 1 _ _ (0, 0) HST.out.r2
               have y2 := cell_of_row _ _ 2 _ _ (0, 0) HST.out.r2
               clear hb HSTP))
    all_goals go_wp2_with fail
    all_goals go_meet
    all_goals first
      | exact Lib.hid ⟨_, rfl, upA HST.out HNo.out.nv HBPC.out⟩
      | exact Lib.hid ⟨_, rfl, upB HST.out HNo.out g5 HK5.out (Nat.le_of_eq HKE.out) nj1k nj2k nj3k HKB.out (fun p hp => by simp at hp) (by rw [HKE.out]; exact HBPC.out)⟩
  go_region_with (first
    | (go_at_call_of 30 (Value.agg #[.bool b1, .slice a1 xs.length c1, .slice a2 ys.length c2])
       refine Calls.mono (C1.out _ HBX.out) ?_
       rintro e wP ⟨v, rfl, ⟨vn, vd, rfl, hn, hdn⟩, hbP⟩
       obtain ⟨a5P, c5P, rfl⟩ := hn.slice
       obtain ⟨a6P, c6P, rfl⟩ := hdn.slice
       have HNP := Lib.hid hn
       have HDP := Lib.hid hdn
       have HBX := Lib.hid (HBX.out.trans (hbP.mono HSX.out))
       have HSX := Lib.hid (Nat.le_trans HSX.out hbP.size)
       have q1 := block_of hbP q1
       have q2 := block_of hbP q2
       have HQ3 := Lib.hid (block_of hbP HQ3.out)
       have HBLP := Lib.hid hbP
       have x0 := cell_of_row _ _ 0 _ _ (0, 0) q1
       have x1 := cell_of_row _ _ 1 _ _ (0, 0) q1
       have x2 := cell_of_row _ _ 2 _ _ (0, 0) q1
       have y0 := cell_of_row _ _ 0 _ _ (0, 0) q2
       have y1 := cell_of_row _ _ 1 _ _ (0, 0) q2
       have y2 := cell_of_row _ _ 2 _ _ (0, 0) q2
       have f0 := frozen_of_row _ _ 0 _ _ q1
       have f1 := frozen_of_row _ _ 1 _ _ q1
       have f2 := frozen_of_row _ _ 2 _ _ q1
       have k0 := frozen_of_row _ _ 0 _ _ q2
       have k1 := frozen_of_row _ _ 1 _ _ q2
       have k2 := frozen_of_row _ _ 2 _ _ q2
       clear hn hdn hbP)
    | (go_at_call_of 30 (Value.agg #[.bool b2, .slice a3 us.length c3, .slice a4 vs.length c4])
       refine Calls.mono (C2.out _ HBX.out) ?_
       rintro e wQ ⟨v, rfl, ⟨vn, vd, rfl, hn, hdn⟩, hbQ⟩
       obtain ⟨a5Q, c5Q, rfl⟩ := hn.slice
       obtain ⟨a6Q, c6Q, rfl⟩ := hdn.slice
       have HNQ := Lib.hid hn
       have HDQ := Lib.hid hdn
       have HBX := Lib.hid (HBX.out.trans (hbQ.mono HSX.out))
       have HSX := Lib.hid (Nat.le_trans HSX.out hbQ.size)
       have q1 := block_of hbQ q1
       have q2 := block_of hbQ q2
       have HQ3 := Lib.hid (block_of hbQ HQ3.out)
       have HBLQ := Lib.hid hbQ
       have x0 := cell_of_row _ _ 0 _ _ (0, 0) q1
       have x1 := cell_of_row _ _ 1 _ _ (0, 0) q1
       have x2 := cell_of_row _ _ 2 _ _ (0, 0) q1
       have y0 := cell_of_row _ _ 0 _ _ (0, 0) q2
       have y1 := cell_of_row _ _ 1 _ _ (0, 0) q2
       have y2 := cell_of_row _ _ 2 _ _ (0, 0) q2
       have f0 := frozen_of_row _ _ 0 _ _ q1
       have f1 := frozen_of_row _ _ 1 _ _ q1
       have f2 := frozen_of_row _ _ 2 _ _ q1
       have k0 := frozen_of_row _ _ 0 _ _ q2
       have k1 := frozen_of_row _ _ 1 _ _ q2
       have k2 := frozen_of_row _ _ 2 _ _ q2
       clear hn hdn hbQ))
  all_goals go_wp2_with fail
  all_goals go_meet
  all_goals
    have hj := HJ1.out
    subst hj
    refine Lib.hid (two_fin q1 q2 HQ3.out hn1 HN3.out.2.2.1 HN3.out.2.1 HBX.out (Nat.le_refl _) HN3.out.1 HN3.out.2.2.2.1 HN3.out.2.2.2.2 (BP := W.drew.heap.size) (BQ := wP.drew.heap.size) ⟨_, _, rfl, HNP.out.below HBLQ.out, HDP.out.below HBLQ.out⟩ ⟨_, _, rfl, HNQ.out, HDQ.out⟩ HL3.out ?_)
    exact Nat.lt_of_lt_of_le HL3.out HBLP.out.size

end Go.Proofs.YthlpfhenaakljaaGreatDoor

namespace Go.Proofs.YthlpfhenaakljaaGreatDoor
open Go.RowKit

theorem heap_set0 {w1 : World} {g : Nat} {a b c : Value} {t : TypeId} (h : w1.heap[g]? = some (.cells #[a, b, c] t (0, 0))) (x : Value) :
    (w1.setCell ⟨g, 0, none⟩ x).heap[g]? = some (.cells #[x, b, c] t (0, 0)) := by
  rw [heap_setCell_same _ g 0 _ t x h]; simp

theorem neg_sign (z : Int) : (if z < 0 then false else decide (0 < (Dg.db B64 z.natAbs).length)) = decide (-z < 0) := by
  split
  · rename_i h
    rw [eq_comm, decide_eq_false_iff_not]; omega
  · rename_i h
    rw [decide_eq_decide]
    constructor
    · intro h2
      have : z ≠ 0 := fun h3 => by rw [h3] at h2; simp [Dg.db_zero] at h2
      omega
    · intro h2
      exact db_len_pos (by omega)

set_option maxHeartbeats 3200000 in
theorem neg6_calls (b : Bool) (m1 m2 : Value) (xs ys : List Nat) (w : World) (h1 : Nv w m1 xs) (h2 : Nv w m2 ys) (l1 : xs.length ≤ 1024) (l2 : ys.length ≤ 1024)
    (_ : (Dg.db B64 (redZ b (Dg.dv B64 xs) (Dg.dv B64 ys)).natAbs).length ≤ 549755813888) :
    Calls Tryz.prog 17 #[.agg #[.bool b, m1, m2]] w (RetR (-redZ b (Dg.dv B64 xs) (Dg.dv B64 ys)) (redD (Dg.dv B64 xs) (Dg.dv B64 ys)) w) := by
  obtain ⟨_, a1, c1, rfl, _, _⟩ := id h1
  obtain ⟨_, a2, c2, rfl, _, _⟩ := id h2
  have CC := Lib.hid (fun wx (hb : Below w.heap.size w wx) => count6_calls b _ _ xs ys wx (h1.below hb) (h2.below hb) l1 l2)
  clear h1 h2 l1 l2
  generalize redZ b (Dg.dv B64 xs) (Dg.dv B64 ys) = z at *
  generalize redD (Dg.dv B64 xs) (Dg.dv B64 ys) = d at *
  go_enter Tryz.func17, Tryz.ntmps17
  go_upto_region 1 with fail
  obtain ⟨g1, g2, hB0, hsz⟩ := two_blocks w (.cells #[.bool b, .slice a1 xs.length c1, .slice a2 ys.length c2] 27) (.cells #[.bool false, .slice none 0 0, .slice none 0 0] 27)
  generalize (w.alloc (.cells #[.bool b, .slice a1 xs.length c1, .slice a2 ys.length c2] 27)).alloc (.cells #[.bool false, .slice none 0 0, .slice none 0 0] 27) = W at *
  have HC := Lib.hid (CC.out _ hB0)
  have HG1 := Lib.hid g1
  have HG2 := Lib.hid g2
  have HB0 := Lib.hid hB0
  have HS0 := Lib.hid (show w.heap.size ≤ W.heap.size by omega)
  have hc0 := cell_of_row _ _ 0 _ _ (0, 0) g1
  have hc1 := cell_of_row _ _ 1 _ _ (0, 0) g1
  have hc2 := cell_of_row _ _ 2 _ _ (0, 0) g1
  have hge := Lib.hid (show w.heap.size ≤ w.heap.size + 1 by omega)
  have hne := Lib.hid (show w.heap.size + 1 ≠ w.heap.size by omega)
  clear g1 g2 hB0 hsz CC
  generalize w.heap.size + 1 = j3 at *
  generalize hj : w.heap.size = j1 at *
  have HJ := Lib.hid hj
  clear hj
  go_wp2_with fail
  refine HC.out.mono ?_
  rintro e w2 ⟨v, rfl, ⟨vn, vd, rfl, hn, hdn⟩, hb⟩
  obtain ⟨a5, c5, rfl⟩ := hn.slice
  obtain ⟨a6, c6, rfl⟩ := hdn.slice
  have HB2 := Lib.hid (HB0.out.trans (hb.mono HS0.out))
  have hj1 := heap_lt HG1.out
  have hj3 := heap_lt HG2.out
  have HG1 := Lib.hid (block_of hb HG1.out)
  have HG2 := Lib.hid (block_of hb HG2.out)
  have hf0 := frozen_of_row _ _ 0 _ _ HG1.out
  have hf1 := frozen_of_row _ _ 1 _ _ HG1.out
  have hf2 := frozen_of_row _ _ 2 _ _ HG1.out
  have hr0 := cell_of_row _ _ 0 _ _ (0, 0) HG1.out
  have hr1 := cell_of_row _ _ 1 _ _ (0, 0) HG1.out
  have hr2 := cell_of_row _ _ 2 _ _ (0, 0) HG1.out
  have HN := Lib.hid hn
  have HDN := Lib.hid hdn
  have HJ1 := Lib.hid hj1
  have HJ3 := Lib.hid hj3
  clear hn hdn hb hc0 hc1 hc2 hj1 hj3
  have HSG := Lib.hid (neg_sign z)
  have HIF := Lib.hid (show (if z < 0 then true else false) = decide (z < 0) by split <;> simp_all)
  generalize hze : decide (z < 0) = bb at *
  have HZE := Lib.hid hze
  clear hze
  go_upto_region 2 with fail
  have k1 := stored3 HG1.out (.bool bb) (.slice a5 (Dg.db B64 z.natAbs).length c5) (.slice a6 (Dg.db B64 d).length c6)
  have k2 := other3 HG2.out hne.out (.bool bb) (.slice a5 (Dg.db B64 z.natAbs).length c5) (.slice a6 (Dg.db B64 d).length c6)
  obtain ⟨f1, f2⟩ := filled3 (w := w) (g := j1) (by rw [HJ.out]; exact HB2.out) (by rw [HJ.out]; exact Nat.le_refl _) (.bool bb) (.slice a5 (Dg.db B64 z.natAbs).length c5) (.slice a6 (Dg.db B64 d).length c6)
  have n1 := kept3 HN.out HJ1.out (.bool bb) (.slice a5 (Dg.db B64 z.natAbs).length c5) (.slice a6 (Dg.db B64 d).length c6)
  have n2 := kept3 HDN.out HJ1.out (.bool bb) (.slice a5 (Dg.db B64 z.natAbs).length c5) (.slice a6 (Dg.db B64 d).length c6)
  clear f2 hf0 hf1 hf2 hr0 hr1 hr2
  generalize ((w2.setCell ⟨j1, 0, none⟩ (.bool bb)).setCell ⟨j1, 1, none⟩ (.slice a5 (Dg.db B64 z.natAbs).length c5)).setCell ⟨j1, 2, none⟩ (.slice a6 (Dg.db B64 d).length c6) = W3 at *
  have hge1 : w.heap.size ≤ j1 := by rw [HJ.out]; exact Nat.le_refl _
  have hne1 : ∀ {n : Nat} {a : Option Addr} {c : Nat} {xs : List Nat}, No W.heap.size W3 (.slice a n c) xs → (Value.slice a n c).ownBlock ≠ some j1 := fun h hh => by
    have := (h.lt _ hh).1
    have := HJ1.out
    omega
  have HP := Lib.hid (fun (v : Value) => And.intro (heap_set0 k1 v) (And.intro ((heap_setCell_other _ _ _ _ hne.out).trans k2 : (W3.setCell ⟨j1, 0, none⟩ v).heap[j3]? = _) (And.intro (f1.setCell hge1 v : Below w.heap.size w (W3.setCell ⟨j1, 0, none⟩ v)) (And.intro (n1.kept (grownBy_setCell W3 j1 0 v) (hne1 n1)) (n2.kept (grownBy_setCell W3 j1 0 v) (hne1 n2))))))
  have hc0 := cell_of_row _ _ 0 _ _ (0, 0) k1
  have hc1 := cell_of_row _ _ 1 _ _ (0, 0) k1
  have hc2 := cell_of_row _ _ 2 _ _ (0, 0) k1
  have hff0 := frozen_of_row _ _ 0 _ _ k1
  have q0 := fun v => cell_of_row _ _ 0 _ _ (0, 0) (HP.out v).1
  have q1 := fun v => cell_of_row _ _ 1 _ _ (0, 0) (HP.out v).1
  have q2 := fun v => cell_of_row _ _ 2 _ _ (0, 0) (HP.out v).1
  have t0 := fun v => frozen_of_row _ _ 0 _ _ (HP.out v).2.1
  have t1 := fun v => frozen_of_row _ _ 1 _ _ (HP.out v).2.1
  have t2 := fun v => frozen_of_row _ _ 2 _ _ (HP.out v).2.1
  have v0 := fun v => cell_of_row _ _ 0 _ _ (0, 0) (HP.out v).2.1
  have v1 := fun v => cell_of_row _ _ 1 _ _ (0, 0) (HP.out v).2.1
  have v2 := fun v => cell_of_row _ _ 2 _ _ (0, 0) (HP.out v).2.1
  clear k1 k2 f1 n1 n2 hne1 hge1
  have HFIN := Lib.hid (show ∀ nb : Bool, nb = decide (-z < 0) → RetR (-z) d w (.returned (.agg #[.bool nb, .slice a5 (Dg.db B64 z.natAbs).length c5, .slice a6 (Dg.db B64 d).length c6])) ((((W3.setCell ⟨j1, 0, none⟩ (.bool nb)).setCell ⟨j3, 0, none⟩ (.bool nb)).setCell ⟨j3, 1, none⟩ (.slice a5 (Dg.db B64 z.natAbs).length c5)).setCell ⟨j3, 2, none⟩ (.slice a6 (Dg.db B64 d).length c6)) from fun nb hnb => by
    obtain ⟨_, _, p3, p4, p5⟩ := HP.out (.bool nb)
    have hge' : w.heap.size ≤ j3 := by rw [HJ.out]; exact hge.out
    obtain ⟨f1, f2⟩ := filled3 p3 hge' (.bool nb) (.slice a5 (Dg.db B64 z.natAbs).length c5) (.slice a6 (Dg.db B64 d).length c6)
    exact ⟨_, rfl, ⟨.slice a5 (Dg.db B64 z.natAbs).length c5, .slice a6 (Dg.db B64 d).length c6, by rw [hnb], by rw [Int.natAbs_neg]; exact f2 _ _ _ HJ3.out p4, f2 _ _ _ HJ3.out p5⟩, f1⟩)
  have hn31 := hne.out
  have hn13 := Ne.symm hn31
  cases bb
  · have HE := Lib.hid (show decide (0 < (Dg.db B64 z.natAbs).length) = decide (-z < 0) by
      have h := HSG.out
      have hz : ¬ z < 0 := by simpa using HZE.out
      rwa [if_neg hz] at h)
    go_wp2_with fail
    refine ret_row rfl _ _ j3 27 _ (0, 0) rfl (stored3 (HP.out _).2.1 _ _ _) und_Rat size_Rat ?_
    exact HFIN.out _ HE.out
  · have HE := Lib.hid (show false = decide (-z < 0) by
      have h := HSG.out
      have hz : z < 0 := by simpa using HZE.out
      rwa [if_pos hz] at h)
    go_wp2_with fail
    refine ret_row rfl _ _ j3 27 _ (0, 0) rfl (stored3 (HP.out _).2.1 _ _ _) und_Rat size_Rat ?_
    exact HFIN.out _ HE.out

end Go.Proofs.YthlpfhenaakljaaGreatDoor

namespace Go.Proofs.YthlpfhenaakljaaGreatDoor
open Go.RowKit

set_option maxHeartbeats 3200000 in
theorem sub6_calls (b1 b2 : Bool) (m1 m2 m3 m4 : Value) (xs ys us vs : List Nat) (z1 z2 : Int) (d1 d2 : Nat) (w : World) (h1 : Nv w m1 xs) (h2 : Nv w m2 ys) (h3 : Nv w m3 us) (h4 : Nv w m4 vs)
    (l1 : xs.length ≤ 199) (l2 : ys.length ≤ 199) (l3 : us.length ≤ 199) (l4 : vs.length ≤ 199)
    (hz1 : z1 = redZ b1 (Dg.dv B64 xs) (Dg.dv B64 ys)) (hd1 : d1 = redD (Dg.dv B64 xs) (Dg.dv B64 ys)) (hz2 : z2 = redZ b2 (Dg.dv B64 us) (Dg.dv B64 vs)) (hd2 : d2 = redD (Dg.dv B64 us) (Dg.dv B64 vs)) :
    Calls Tryz.prog 15 #[.agg #[.bool b1, m1, m2], .agg #[.bool b2, m3, m4]] w (RetR (nrm (z1 * (d2 : Int) + -z2 * (d1 : Int)) (d1 * d2)) (nrd (z1 * (d2 : Int) + -z2 * (d1 : Int)) (d1 * d2)) w) := by
  obtain ⟨_, a1, c1, rfl, _, _⟩ := id h1
  obtain ⟨_, a2, c2, rfl, _, _⟩ := id h2
  obtain ⟨_, a3, c3, rfl, _, _⟩ := id h3
  obtain ⟨_, a4, c4, rfl, _, _⟩ := id h4
  have hR : Red z2 d2 := by rw [hz2, hd2]; exact red_red _ _ _
  have lz : (Dg.db B64 (-z2).natAbs).length ≤ 200 := by rw [Int.natAbs_neg, hz2]; exact Nat.le_trans (redZ_len b2 h3.1 _) (by omega)
  have ld : (Dg.db B64 d2).length ≤ 200 := by rw [hd2]; exact Nat.le_trans (redD_len _ h4.1) (by omega)
  have CN := Lib.hid (fun wx (hb : Below w.heap.size w wx) => neg6_calls b2 _ _ us vs wx (h3.below hb) (h4.below hb) (by omega) (by omega) (Nat.le_trans (redZ_len b2 h3.1 _) (by omega)))
  have CA := Lib.hid (fun wx v v' (hb : Below w.heap.size w wx) (hn : Nv wx v (Dg.db B64 (-z2).natAbs)) (hd : Nv wx v' (Dg.db B64 d2)) =>
    add6_calls b1 (decide (-z2 < 0)) _ _ v v' xs ys _ _ z1 (-z2) d1 d2 wx (h1.below hb) (h2.below hb) hn hd (by omega) (by omega) lz ld hz1 hd1 hR.neg.z (by have := hR.neg.d; exact this))
  rw [← hz2, ← hd2] at CN
  clear h1 h2 h3 h4 hz1 hd1 hz2 hd2 hR lz ld
  generalize nrm (z1 * (d2 : Int) + -z2 * (d1 : Int)) (d1 * d2) = Z at *
  generalize nrd (z1 * (d2 : Int) + -z2 * (d1 : Int)) (d1 * d2) = D at *
  generalize hzn : -z2 = zn at *
  clear hzn
  go_enter Tryz.func15, Tryz.ntmps15
  go_upto_region 1 with fail
  obtain ⟨g1, g2, g3, hB0, hsz⟩ := three_blocks w (.cells #[.bool b1, .slice a1 xs.length c1, .slice a2 ys.length c2] 27) (.cells #[.bool b2, .slice a3 us.length c3, .slice a4 vs.length c4] 27) (.cells #[.bool false, .slice none 0 0, .slice none 0 0] 27)
  generalize ((w.alloc (.cells #[.bool b1, .slice a1 xs.length c1, .slice a2 ys.length c2] 27)).alloc (.cells #[.bool b2, .slice a3 us.length c3, .slice a4 vs.length c4] 27)).alloc (.cells #[.bool false, .slice none 0 0, .slice none 0 0] 27) = W at *
  have HST := Lib.hid (show TwoAt W w.heap.size (w.heap.size + 1) (w.heap.size + 1 + 1) b1 b2 (.slice a1 xs.length c1) (.slice a2 ys.length c2) (.slice a3 us.length c3) (.slice a4 vs.length c4) W.drew from ⟨(Below.refl _ _).drew, g1, g2, g3⟩)
  have HBW := Lib.hid hB0
  have HGE := Lib.hid (show w.heap.size ≤ w.heap.size + 1 + 1 by omega)
  have HJ3 := Lib.hid (heap_lt g3)
  have n13 : w.heap.size ≠ w.heap.size + 1 + 1 := by omega
  have n23 : w.heap.size + 1 ≠ w.heap.size + 1 + 1 := by omega
  have n12 : w.heap.size ≠ w.heap.size + 1 := by omega
  have n31 := Ne.symm n13
  have n32 := Ne.symm n23
  have n21 := Ne.symm n12
  have x0 := cell_of_row _ _ 0 _ _ (0, 0) HST.out.r1
  have x1 := cell_of_row _ _ 1 _ _ (0, 0) HST.out.r1
  have x2 := cell_of_row _ _ 2 _ _ (0, 0) HST.out.r1
  have y0 := cell_of_row _ _ 0 _ _ (0, 0) HST.out.r2
  have y1 := cell_of_row _ _ 1 _ _ (0, 0) HST.out.r2
  have y2 := cell_of_row _ _ 2 _ _ (0, 0) HST.out.r2
  clear g1 g2 g3 hB0 hsz
  have CN2 := Lib.hid (fun wx (hb : Below W.heap.size W wx) => CN.out wx (HBW.out.trans (hb.mono HBW.out.size)))
  have CA2 := Lib.hid (fun wx v v' (hb : Below W.heap.size W wx) => CA.out wx v v' (HBW.out.trans (hb.mono HBW.out.size)))
  clear CN CA
  generalize w.heap.size + 1 + 1 = j3 at *
  generalize w.heap.size + 1 = j2 at *
  generalize hj1 : w.heap.size = j1 at *
  have HJ := Lib.hid hj1
  clear hj1
  go_region_held3 (fun w' => w'.cell? ⟨j1, 0, none⟩ = some (.bool b1) ∧ w'.cell? ⟨j1, 1, none⟩ = some (.slice a1 xs.length c1) ∧ w'.cell? ⟨j1, 2, none⟩ = some (.slice a2 ys.length c2) ∧ w'.cell? ⟨j2, 0, none⟩ = some (.bool b2) ∧ w'.cell? ⟨j2, 1, none⟩ = some (.slice a3 us.length c3) ∧ w'.cell? ⟨j2, 2, none⟩ = some (.slice a4 vs.length c4)) (go_keep)
    (first
      | (go_at_call 17
         refine Calls.mono (CN2.out _ HST.out.bel) ?_
         rintro e w1 ⟨v, rfl, ⟨vn, vd, rfl, hn, hdn⟩, hb⟩
         obtain ⟨a7, c7, rfl⟩ := hn.slice
         obtain ⟨a8, c8, rfl⟩ := hdn.slice
         have HN := Lib.hid hn.nv
         have HD := Lib.hid hdn.nv
         have HST := Lib.hid (TwoAt.call HST.out hb)
         have x0 := cell_of_row _ _ 0 _ _ (0, 0) HST.out.r1
         have x1 := cell_of_row _ _ 1 _ _ (0, 0) HST.out.r1
         have x2 := cell_of_row _ _ 2 _ _ (0, 0) HST.out.r1
         have y0 := cell_of_row _ _ 0 _ _ (0, 0) HST.out.r2
         have y1 := cell_of_row _ _ 1 _ _ (0, 0) HST.out.r2
         have y2 := cell_of_row _ _ 2 _ _ (0, 0) HST.out.r2
         clear hn hdn hb)
      | (go_at_call 14
         refine Calls.mono (CA2.out _ _ _ HST.out.bel HN.out HD.out) ?_
         rintro e w2 ⟨v, rfl, ⟨vn, vd, rfl, hn, hdn⟩, hb⟩
         obtain ⟨a7, c7, rfl⟩ := hn.slice
         obtain ⟨a8, c8, rfl⟩ := hdn.slice
         have HSZ := Lib.hid HST.out.bel.size
         have HN := Lib.hid hn
         have HD := Lib.hid hdn
         have HST := Lib.hid (TwoAt.call HST.out hb)
         have x0 := cell_of_row _ _ 0 _ _ (0, 0) HST.out.r1
         have x1 := cell_of_row _ _ 1 _ _ (0, 0) HST.out.r1
         have x2 := cell_of_row _ _ 2 _ _ (0, 0) HST.out.r1
         have y0 := cell_of_row _ _ 0 _ _ (0, 0) HST.out.r2
         have y1 := cell_of_row _ _ 1 _ _ (0, 0) HST.out.r2
         have y2 := cell_of_row _ _ 2 _ _ (0, 0) HST.out.r2
         have t0 := frozen_of_row _ _ 0 _ _ HST.out.r3
         have t1 := frozen_of_row _ _ 1 _ _ HST.out.r3
         have t2 := frozen_of_row _ _ 2 _ _ HST.out.r3
         have v0 := cell_of_row _ _ 0 _ _ (0, 0) HST.out.r3
         have v1 := cell_of_row _ _ 1 _ _ (0, 0) HST.out.r3
         have v2 := cell_of_row _ _ 2 _ _ (0, 0) HST.out.r3
         clear hn hdn hb))
  go_wp2_with fail
  have HBE := Lib.hid (show Below w.heap.size w w2 from by rw [HJ.out]; exact HBW.out.trans (HST.out.bel.mono (by have := HBW.out.size; rw [← HJ.out]; exact this)))
  have hge : w.heap.size ≤ j3 := by rw [HJ.out]; exact HGE.out
  refine ret_row rfl _ _ j3 27 _ (0, 0) rfl (stored3 HST.out.r3 _ _ _) und_Rat size_Rat ?_
  exact ⟨_, rfl, ⟨_, _, rfl, (filled3 HBE.out hge _ _ _).2 _ _ _ (Nat.lt_of_lt_of_le HJ3.out HSZ.out) HN.out, (filled3 HBE.out hge _ _ _).2 _ _ _ (Nat.lt_of_lt_of_le HJ3.out HSZ.out) HD.out⟩, (filled3 HBE.out hge _ _ _).1⟩

end Go.Proofs.YthlpfhenaakljaaGreatDoor

namespace Go.Proofs.YthlpfhenaakljaaGreatDoor
open Go.RowKit

set_option maxHeartbeats 800000 in
theorem size6_calls (n : Nat) (w : World) (hn : n < 1000) : Calls Tryz.prog 110 #[.int .i64 n] w (RetN (Dg.db B64 n) w) := by
  have CO := Lib.hid (of2_calls n w (Nat.lt_trans hn (by decide)))
  have h1 : (n : Int) ≥ 0 := by omega
  have hw : IntKind.u64.wrap (n : Int) = (n : Int) := by rw [IntKind.wrap_u64]; omega
  go_enter Tryz.func110, Tryz.ntmps110
  go_wp2_with fail
  refine CO.out.mono ?_
  rintro e w2 ⟨v, rfl, hn, hb⟩
  obtain ⟨a, c, rfl⟩ := hn.slice
  have HN := Lib.hid hn
  have HB := Lib.hid hb
  clear hn hb
  go_wp2_with fail
  go_ret
  exact ⟨_, rfl, HN.out, HB.out⟩

set_option maxHeartbeats 1600000 in
theorem over6_calls (n d : Nat) (w : World) (hn : n < 1000) (hd : d < 1000) (h0 : d ≠ 0) :
    Calls Tryz.prog 72 #[.int .i64 n, .int .i64 d] w (fun e w' => ∃ v, e = .returned (.tuple #[v, .int .i64 0]) ∧ RR (sgn false (n / Nat.gcd n d)) (d / Nat.gcd n d) w.heap.size w' v ∧ Below w.heap.size w w') := by
  have S1 := Lib.hid (fun wx => size6_calls n wx hn)
  have S2 := Lib.hid (fun wx => size6_calls d wx hd)
  have LN := Lib.hid (show (Dg.db B64 n).length ≤ 1024 from Nat.le_trans (Dg.db_length (k := 1) (by decide) (Nat.lt_trans hn (by decide))) (by decide))
  have LD := Lib.hid (show (Dg.db B64 d).length ≤ 1024 from Nat.le_trans (Dg.db_length (k := 1) (by decide) (Nat.lt_trans hd (by decide))) (by decide))
  have H0 := Lib.hid h0
  generalize hz : sgn false (n / Nat.gcd n d) = z at *
  generalize hdd : d / Nat.gcd n d = dd at *
  have HZD := Lib.hid (And.intro hz hdd)
  clear hz hdd
  have h1 : ¬ ((n : Int) < 0) := by omega
  have h2 : ¬ ((d : Int) < 0) := by omega
  clear h0
  go_enter Tryz.func72, Tryz.ntmps72
  go_upto_region 1 with fail
  obtain ⟨g1, hB0, hsz⟩ := one_block w (.cells #[.bool false, .slice none 0 0, .slice none 0 0] 27)
  generalize w.alloc (.cells #[.bool false, .slice none 0 0, .slice none 0 0] 27) = W at *
  have HG := Lib.hid g1
  have HB0 := Lib.hid hB0
  have HS := Lib.hid hsz
  clear g1 hB0 hsz
  generalize hj : w.heap.size = j1 at *
  have HJ := Lib.hid hj
  clear hj
  go_wp2_with fail
  refine (S1.out _).mono ?_
  rintro e w2 ⟨v, rfl, hno, hb⟩
  obtain ⟨a3, c3, rfl⟩ := hno.slice
  have HN := Lib.hid hno.nv
  have HG2 := Lib.hid (block_of hb HG.out)
  have HB2 := Lib.hid (HB0.out.trans (hb.mono (Nat.le_of_lt HS.out)))
  have HS2 := Lib.hid (Nat.lt_of_lt_of_le HS.out hb.size)
  clear hno hb
  go_wp2_with fail
  refine (S2.out _).mono ?_
  rintro e w3 ⟨v, rfl, hno, hb⟩
  obtain ⟨a4, c4, rfl⟩ := hno.slice
  have HD := Lib.hid hno.nv
  have HN := Lib.hid (HN.out.below hb)
  have HG3 := Lib.hid (block_of hb HG2.out)
  have HB3 := Lib.hid (HB2.out.trans (hb.mono (Nat.le_of_lt HS2.out)))
  have HS3 := Lib.hid (Nat.lt_of_lt_of_le HS2.out hb.size)
  clear hno hb
  go_wp2_with fail
  refine (make6_calls false _ _ _ _ _ HN.out HD.out LN.out LD.out).mono ?_
  rintro e w4 ⟨hb, _, hq⟩
  rw [Dg.dv_db (by decide), Dg.dv_db (by decide)] at hq
  obtain ⟨v, rfl, hr⟩ := hq H0.out
  rw [HZD.out.1, HZD.out.2] at hr
  obtain ⟨vn, vd, rfl, hn, hdn⟩ := hr
  obtain ⟨a5, c5, rfl⟩ := hn.slice
  obtain ⟨a6, c6, rfl⟩ := hdn.slice
  have hg4 := block_of hb HG3.out
  have HG4 := Lib.hid hg4
  have HB4 := Lib.hid (HB3.out.trans (hb.mono (Nat.le_of_lt HS3.out)))
  have HNN := Lib.hid hn
  have HDN := Lib.hid hdn
  have t0 := frozen_of_row _ _ 0 _ _ hg4
  have t1 := frozen_of_row _ _ 1 _ _ hg4
  have t2 := frozen_of_row _ _ 2 _ _ hg4
  have v0 := cell_of_row _ _ 0 _ _ (0, 0) hg4
  have v1 := cell_of_row _ _ 1 _ _ (0, 0) hg4
  have v2 := cell_of_row _ _ 2 _ _ (0, 0) hg4
  clear hg4 hq hb hn hdn
  go_wp2_with fail
  refine ret_row_tmp rfl _ _ j1 27 _ (0, 0) rfl (stored3 HG4.out _ _ _) und_Rat size_Rat ?_
  have hB : Below w.heap.size w w4 := by rw [HJ.out]; exact HB4.out
  have hge : w.heap.size ≤ j1 := by rw [HJ.out]; exact Nat.le_refl _
  exact ⟨_, rfl, ⟨_, _, rfl, (filled3 hB hge _ _ _).2 _ _ _ HS3.out HNN.out, (filled3 hB hge _ _ _).2 _ _ _ HS3.out HDN.out⟩, (filled3 hB hge _ _ _).1⟩

set_option maxHeartbeats 1600000 in
theorem of6z_calls (z : Int) (dd : Nat) (hz : z = 0) (hdd : dd = 1) (w : World) : Calls Tryz.prog 42 #[.int .i64 0] w (RetR z dd w) := by
  have CO := Lib.hid (fun wx => over6_calls 0 1 wx (by decide) (by decide) (by decide))
  rw [show sgn false (0 / Nat.gcd 0 1) = z from by rw [hz]; decide, show 1 / Nat.gcd 0 1 = dd from by rw [hdd]; decide] at CO
  clear hz hdd
  go_enter Tryz.func42, Tryz.ntmps42
  go_upto_region 1 with fail
  obtain ⟨g1, hB0, hsz⟩ := one_block w (.cells #[.bool false, .slice none 0 0, .slice none 0 0] 27)
  generalize w.alloc (.cells #[.bool false, .slice none 0 0, .slice none 0 0] 27) = W at *
  have HM := Lib.hid (CO.out W)
  have HG2 := Lib.hid g1
  have HB0 := Lib.hid hB0
  have HS0 := Lib.hid hsz
  clear g1 hB0 hsz CO
  generalize hj : w.heap.size = j3 at *
  have HJ := Lib.hid hj
  clear hj
  go_wp2_with fail
  refine HM.out.mono ?_
  rintro e w2 ⟨v, rfl, ⟨vn, vd, rfl, hn, hdn⟩, hb⟩
  obtain ⟨a5, c5, rfl⟩ := hn.slice
  obtain ⟨a6, c6, rfl⟩ := hdn.slice
  have HB2 := Lib.hid (show Below w.heap.size w w2 by rw [HJ.out]; exact HB0.out.trans (hb.mono (Nat.le_of_lt HS0.out)))
  have HG3 := Lib.hid (block_of hb HG2.out)
  have hge : w.heap.size ≤ j3 := by rw [HJ.out]; exact Nat.le_refl _
  have HE := Lib.hid (fun u => endC (u := u) HB2.out HG3.out hn hdn (heap_lt HG2.out) (heap_lt HG2.out) hge)
  have ga := heap_alloc_new w2 (.cells #[.bool false, .slice none 0 0, .slice none 0 0] 27)
  have e0 := frozen_of_row _ _ 0 _ _ ga
  have e1 := frozen_of_row _ _ 1 _ _ ga
  have e2 := frozen_of_row _ _ 2 _ _ ga
  have r0 := cell_of_row _ _ 0 _ _ (0, 0) ga
  have r1 := cell_of_row _ _ 1 _ _ (0, 0) ga
  have r2 := cell_of_row _ _ 2 _ _ (0, 0) ga
  have hg3 := fun (o : Obj) => (heap_alloc_old w2 o (heap_lt HG3.out)).trans HG3.out
  have t0 := fun (o : Obj) => frozen_of_row _ _ 0 _ _ (hg3 o)
  have t1 := fun (o : Obj) => frozen_of_row _ _ 1 _ _ (hg3 o)
  have t2 := fun (o : Obj) => frozen_of_row _ _ 2 _ _ (hg3 o)
  have v0 := fun (o : Obj) => cell_of_row _ _ 0 _ _ (0, 0) (hg3 o)
  have v1 := fun (o : Obj) => cell_of_row _ _ 1 _ _ (0, 0) (hg3 o)
  have v2 := fun (o : Obj) => cell_of_row _ _ 2 _ _ (0, 0) (hg3 o)
  clear hb ga hg3 hn hdn hge
  generalize hze : decide (z < 0) = bb at *
  have HZE := Lib.hid hze
  clear hze
  go_wp2_with fail
  refine ret_row rfl _ _ j3 27 _ (0, 0) rfl (stored3 (HE.out _).r3 _ _ _) und_Rat size_Rat ?_
  have hE := HE.out (.bool bb)
  exact ⟨_, rfl, ⟨_, _, by rw [HZE.out], (filled3 hE.bel hE.ge _ _ _).2 _ _ _ (Nat.lt_succ_self _) hE.hn, (filled3 hE.bel hE.ge _ _ _).2 _ _ _ (Nat.lt_succ_self _) hE.hd⟩, (filled3 hE.bel hE.ge _ _ _).1⟩

theorem of60_calls (w : World) : Calls Tryz.prog 42 #[.int .i64 0] w (RetR 0 1 w) := of6z_calls 0 1 rfl rfl w

end Go.Proofs.YthlpfhenaakljaaGreatDoor
