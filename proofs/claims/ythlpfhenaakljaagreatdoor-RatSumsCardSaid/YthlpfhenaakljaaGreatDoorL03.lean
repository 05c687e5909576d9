/- quo.take and quo.back: they turn a part of a row of the caller's. quo.Div: the short ways. quo.Div: the long way. quo.Gcd. whole.Make, whole.Neg, whole.Mul. whole.Neg, whole.Mul. whole.Sign, whole.Cmp, whole.Of. whole.Of. rat.one, rat.Make. rat.one, rat.by, rat.Of. -/
import Derived.Test.YthlpfhenaakljaaGreatDoorL02
import Derived.Test.YthlpfhenaakljaaGreatDoorL01
import Derived.Deep.RegionHeld3
import Derived.Deep.Cut
namespace Go.Proofs.YthlpfhenaakljaaGreatDoor
open Go.RowKit

/-- A row of words at block g, of some capacity. -/
def RowIn (B : Nat) (w : World) (g N : Nat) (ls : List Nat) : Prop := ls.length = N ∧ ∃ cap, w.ownsRow B 43 1 (.slice (some ⟨g, 0, none⟩) N cap) N (us ls)

theorem RowIn.cell {B : Nat} {w : World} {g N : Nat} {ls : List Nat} (h : RowIn B w g N ls) {k : Nat} (hk : k < N) : w.cell? ⟨g, k, none⟩ = some (.int .u64 (ls.getD k 0 : Nat)) := by
  obtain ⟨h1, cap, h2⟩ := h
  rw [World.ownsRow.cellAt h2 k (by simpa using hk), us_getD _ _ (by rw [h1]; exact hk)]
theorem RowIn.free {B : Nat} {w : World} {g N : Nat} {ls : List Nat} (h : RowIn B w g N ls) (k : Nat) : w.frozen? ⟨g, k, none⟩ = false := by
  obtain ⟨h1, cap, h2⟩ := h; exact World.ownsRow.frozenAt h2 k
theorem RowIn.lt {B : Nat} {w : World} {g N : Nat} {ls : List Nat} (h : RowIn B w g N ls) : B ≤ g ∧ g < w.heap.size := by
  obtain ⟨h1, cap, h2⟩ := h; exact World.ownsRow.lt h2 g (by simp [Value.ownBlock])
theorem RowIn.set {B : Nat} {w : World} {g N : Nat} {ls : List Nat} (h : RowIn B w g N ls) (k r : Nat) : RowIn B (w.setCell ⟨g, k, none⟩ (.int .u64 r)) g N (ls.set k r) := by
  obtain ⟨h1, cap, h2⟩ := h
  have hs := World.ownsRow.stored h2 k (.int .u64 (r : Int))
  rw [← us_set] at hs
  exact ⟨by simp [h1], cap, hs.1⟩
theorem RowIn.kept {B : Nat} {w w' : World} {g N : Nat} {ls : List Nat} {row : Option Nat} (h : RowIn B w g N ls) (hg : w.grownBy w' row) (hne : some g ≠ row) : RowIn B w' g N ls := by
  obtain ⟨h1, cap, h2⟩ := h
  exact ⟨h1, cap, h2.kept hg (.inr hne)⟩
theorem RowIn.below {B : Nat} {w w' : World} {g N : Nat} {ls : List Nat} (h : RowIn B w g N ls) (hb : Below w.heap.size w w') : RowIn B w' g N ls := by
  obtain ⟨h1, cap, h2⟩ := h
  exact ⟨h1, cap, ownsRow_below h2 hb⟩
theorem RowIn.no {B : Nat} {w : World} {g N : Nat} {ls : List Nat} (h : RowIn B w g N ls) (hd : Ws ls) : ∃ cap, N ≤ cap ∧ No B w (.slice (some ⟨g, 0, none⟩) N cap) ls := by
  obtain ⟨h1, cap, h2⟩ := h
  have hno : No B w (.slice (some ⟨g, 0, none⟩) N cap) ls := ⟨hd, by rw [h1]; exact h2⟩
  obtain ⟨_, a, c, e, hc, _⟩ := hno.nv
  simp only [Value.slice.injEq] at e
  exact ⟨cap, by omega, hno⟩

theorem No.kept {B : Nat} {w w' : World} {v : Value} {xs : List Nat} {row : Option Nat} (h : No B w v xs) (hg : w.grownBy w' row) (hne : v.ownBlock ≠ row) : No B w' v xs := ⟨h.1, h.2.kept hg (.inr hne)⟩

/-- The middle of a row. -/
theorem mid_get {lo ns p hi : List Nat} {k : Nat} (hn : ns.length = k) (hk : k < p.length) : (lo ++ ((ns ++ p.drop k) ++ hi)).getD (lo.length + k) 0 = p.getD k 0 := by
  subst hn
  simp [List.getD, List.getElem?_append, hk, show ¬ lo.length + ns.length < lo.length by omega, show 0 < p.length - ns.length by omega]
theorem mid_set {lo ns p hi : List Nat} {k v : Nat} (hn : ns.length = k) (hk : k < p.length) : (lo ++ ((ns ++ p.drop k) ++ hi)).set (lo.length + k) v = lo ++ (((ns ++ [v]) ++ p.drop (k + 1)) ++ hi) := by
  subst hn
  rw [List.set_append_right _ _ (Nat.le_add_right _ _), Nat.add_sub_cancel_left, List.append_assoc, List.set_append_right _ _ (Nat.le_refl _), Nat.sub_self, List.drop_eq_getElem_cons hk, List.cons_append, List.set_cons_zero]
  simp

/-- What take keeps in its rounds. -/
def TakeRel (B : Nat) (w : World) (g N : Nat) (lo p hi ds : List Nat) (q k ov br : Nat) (wr : World) : Prop :=
  ∃ ns, Dg.TakeAt B64 p ds q k ns ov br ∧ RowIn B wr g N (lo ++ ((ns ++ p.drop k) ++ hi)) ∧ w.grownBy wr (some g)

theorem grownBy_refl (w : World) (row : Option Nat) : w.grownBy w row := ⟨rfl, rfl, rfl, Nat.le_refl _, fun _ _ _ => rfl⟩

theorem grownBy_trans {a b c : World} {row : Option Nat} (h : a.grownBy b row) (k : b.grownBy c row) : a.grownBy c row :=
  ⟨k.os.trans h.os, k.tape.trans h.tape, k.output.trans h.output, Nat.le_trans h.size k.size, fun i hi hne => (k.block i (Nat.lt_of_lt_of_le hi h.size) hne).trans (h.block i hi hne)⟩

/-- What take and back answer: the part anew, and what is carried. -/
def Parted (B : Nat) (w : World) (g N : Nat) (lo p hi : List Nat) (K : List Nat → Nat → Prop) (e : Ending) (w' : World) : Prop :=
  ∃ p' c, e = .returned (.int .u64 (c : Nat)) ∧ c ≤ 1 ∧ p'.length = p.length ∧ Ws p' ∧ K p' c ∧ RowIn B w' g N (lo ++ (p' ++ hi)) ∧ w.grownBy w' (some g)

set_option maxHeartbeats 1600000 in
theorem take_calls (lo p hi ds : List Nat) (vd : Value) (B Bd g N q pcap : Nat) (w : World) (hR : RowIn B w g N (lo ++ (p ++ hi))) (hp : Ws p) (hno : No Bd w vd ds) (hne : vd.ownBlock ≠ some g)
    (hl : p.length = ds.length + 1) (hN : N ≤ 2199023255552) (hq : q < B64) :
    Calls Tryz.prog 80 #[.slice (some ⟨g, lo.length, none⟩) (ds.length + 1) pcap, vd, .int .u64 q] w
      (Parted B w g N lo p hi (fun p' c => Dg.dv B64 p' + q * Dg.dv B64 ds = Dg.dv B64 p + B64 ^ p.length * c)) := by
  have hlen : lo.length + ds.length + 1 ≤ N := by have := hR.1; simp at this; omega
  obtain ⟨hds, a2, cp2, rfl, hcap2, _⟩ := hno.nv
  have HD := Lib.hid (fun wr (h : w.grownBy wr (some g)) => (hno.kept h hne).nv)
  have HT := Lib.hid (show TakeRel B w g N lo p hi ds q 0 0 0 w from ⟨[], Dg.TakeAt.start (by decide) _ _ _, hR, grownBy_refl w _⟩)
  clear hR hno hne
  generalize hol : lo.length = ol at *
  have HOL := Lib.hid hol
  clear hol
  go_enter Tryz.func80, Tryz.ntmps80
  go_wp2_with fail
  go_loopw [6, 7, 15] (fun b o s wr => ∃ k ov br : Nat, k ≤ ds.length ∧ s = .int .i64 k ∧ o = .int .u64 ov ∧ b = .int .u64 br ∧ Hid (TakeRel B w g N lo p hi ds q k ov br wr)) (fun _ _ s _ => ds.length - (intOf s).toNat)
  case atStart => exact ⟨0, 0, 0, Nat.zero_le _, rfl, rfl, rfl, HT⟩
  case round =>
    obtain ⟨k, ov, br, hk, rfl, rfl, rfl, hrel⟩ := hrel
    obtain ⟨ns, hT, hR, hg⟩ := hrel.out
    clear hrel HT
    by_cases hkn : k < ds.length
    · obtain ⟨_, a3, cp3, e3, hcap3, r3⟩ := HD.out _ hg
      simp only [Value.slice.injEq, true_and] at e3
      obtain ⟨rfl, rfl⟩ := e3
      obtain ⟨b1, o1, rfl, hb1, hc1⟩ := r3.cell (fun h => by simp [h] at hkn)
      have hcx := hc1 k hkn
      have hcd := hR.cell (k := ol + k) (by omega)
      have hfd := hR.free (ol + k)
      rw [← HOL.out, mid_get hT.1 (by omega)] at hcd
      rw [HOL.out] at hcd
      obtain ⟨hov, hT2⟩ := hT.step (by decide) hp hds hq
      have HSet := Lib.hid (fun v => mid_set (lo := lo) (p := p) (hi := hi) (v := v) hT.1 (show k < p.length by omega))
      rw [HOL.out] at HSet
      have HR := Lib.hid (fun r => hR.set (ol + k) r)
      have HG := Lib.hid (fun r => grownBy_trans hg (grownBy_setCell _ g (ol + k) (.int .u64 r)))
      have HT2 := Lib.hid hT2
      have hxb := hds.getD k
      clear hT hR hg hc1 hb1 hT2 r3 hcap3
      generalize hxe : ds.getD k 0 = x at *
      have HXE := Lib.hid hxe
      clear hxe
      generalize p.getD k 0 = a at *
      have HM := Lib.hid (wmul_calls x q wr hxb hq)
      have hov' : ((x * q / B64 : Nat) : Int) + ((x * q % B64 + ov) / B64 : Nat) ≤ 18446744073709551615 := by have e : B64 = 18446744073709551616 := rfl; omega
      clear hxb hov
      generalize x * q / B64 = h1 at *
      generalize x * q % B64 = l1 at *
      have HA := Lib.hid (wadd0_calls l1 ov wr)
      generalize (l1 + ov) / B64 = c1 at *
      generalize (l1 + ov) % B64 = l2 at *
      have HS := Lib.hid (wsub_calls a l2 br wr)
      generalize (a + B64 - l2 - min br 1) % B64 = nv at *
      generalize (if a < l2 + min br 1 then 1 else 0) = br' at *
      go_wp2_with fail
      refine (HM.out).mono ?_
      rintro e w' ⟨rfl, rfl⟩
      go_wp2_with fail
      refine (HA.out).mono ?_
      rintro e w' ⟨rfl, rfl⟩
      go_wp2_with fail
      refine (HS.out).mono ?_
      rintro e w' ⟨rfl, rfl⟩
      go_wp2_with fail
      go_roundw
      case rel => exact ⟨k + 1, h1 + c1, br', by omega, by go_num, by push_cast; rfl, rfl, _, HT2.out, by have := HR.out nv; rw [HSet.out] at this; exact this, HG.out _⟩
      case measure => simp only [intOf]; omega
    · obtain rfl : k = ds.length := by omega
      have hcd := hR.cell (k := ol + ds.length) (by omega)
      have hfd := hR.free (ol + ds.length)
      rw [← HOL.out, mid_get hT.1 (by omega)] at hcd
      rw [HOL.out] at hcd
      have hT2 := hT.done (by decide) hp rfl hl
      have HSet := Lib.hid (fun v => mid_set (lo := lo) (p := p) (hi := hi) (v := v) hT.1 (show ds.length < p.length by omega))
      rw [HOL.out] at HSet
      have HR := Lib.hid (fun r => hR.set (ol + ds.length) r)
      have HG := Lib.hid (fun r => grownBy_trans hg (grownBy_setCell _ g (ol + ds.length) (.int .u64 r)))
      have HT2 := Lib.hid hT2
      clear hT hR hg hT2
      generalize p.getD ds.length 0 = a at *
      have HS := Lib.hid (wsub_calls a ov br wr)
      generalize (a + B64 - ov - min br 1) % B64 = nv at *
      generalize (if a < ov + min br 1 then 1 else 0) = br' at *
      go_wp2_with fail
      refine (HS.out).mono ?_
      rintro e w' ⟨rfl, rfl⟩
      go_wp2_with fail
      go_ret
      obtain ⟨k1, k2, k3, k4⟩ := HT2.out
      refine ⟨ns ++ [nv], br', rfl, k3, by rw [k1, hl], k2, k4, ?_, HG.out _⟩
      have := HR.out nv
      rw [HSet.out, List.drop_of_length_le (by omega), List.append_nil] at this
      exact this

/-- What back keeps in its rounds. -/
def BackRel (B : Nat) (w : World) (g N : Nat) (lo p hi ds : List Nat) (k c : Nat) (wr : World) : Prop :=
  ∃ ns, Dg.AddAt B64 p ds k ns c ∧ RowIn B wr g N (lo ++ ((ns ++ p.drop k) ++ hi)) ∧ w.grownBy wr (some g)

set_option maxHeartbeats 1600000 in
theorem back_calls (lo p hi ds : List Nat) (vd : Value) (B Bd g N pcap : Nat) (w : World) (hR : RowIn B w g N (lo ++ (p ++ hi))) (hp : Ws p) (hno : No Bd w vd ds) (hne : vd.ownBlock ≠ some g)
    (hl : p.length = ds.length + 1) (hN : N ≤ 2199023255552) :
    Calls Tryz.prog 81 #[.slice (some ⟨g, lo.length, none⟩) (ds.length + 1) pcap, vd] w
      (Parted B w g N lo p hi (fun p' c => Dg.dv B64 p' + B64 ^ p.length * c = Dg.dv B64 p + Dg.dv B64 ds)) := by
  have hlen : lo.length + ds.length + 1 ≤ N := by have := hR.1; simp at this; omega
  obtain ⟨hds, a2, cp2, rfl, hcap2, _⟩ := hno.nv
  have HD := Lib.hid (fun wr (h : w.grownBy wr (some g)) => (hno.kept h hne).nv)
  have HT := Lib.hid (show BackRel B w g N lo p hi ds 0 0 w from ⟨[], Dg.AddAt.start _ _ _, hR, grownBy_refl w _⟩)
  clear hR hno hne
  generalize hol : lo.length = ol at *
  have HOL := Lib.hid hol
  clear hol
  go_enter Tryz.func81, Tryz.ntmps81
  go_wp2_with fail
  go_loopw [4, 9] (fun b s wr => ∃ k br : Nat, k ≤ ds.length ∧ s = .int .i64 k ∧ b = .int .u64 br ∧ Hid (BackRel B w g N lo p hi ds k br wr)) (fun _ s _ => ds.length - (intOf s).toNat)
  case atStart => exact ⟨0, 0, Nat.zero_le _, rfl, rfl, HT⟩
  case round =>
    obtain ⟨k, br, hk, rfl, rfl, hrel⟩ := hrel
    obtain ⟨ns, hT, hR, hg⟩ := hrel.out
    clear hrel HT
    by_cases hkn : k < ds.length
    · obtain ⟨_, a3, cp3, e3, hcap3, r3⟩ := HD.out _ hg
      simp only [Value.slice.injEq, true_and] at e3
      obtain ⟨rfl, rfl⟩ := e3
      obtain ⟨b1, o1, rfl, hb1, hc1⟩ := r3.cell (fun h => by simp [h] at hkn)
      have hcx := hc1 k hkn
      have hcd := hR.cell (k := ol + k) (by omega)
      have hfd := hR.free (ol + k)
      rw [← HOL.out, mid_get hT.1 (by omega)] at hcd
      rw [HOL.out] at hcd
      have hT2 := hT.step (by decide) hp hds
      have HSet := Lib.hid (fun v => mid_set (lo := lo) (p := p) (hi := hi) (v := v) hT.1 (show k < p.length by omega))
      rw [HOL.out] at HSet
      have HR := Lib.hid (fun r => hR.set (ol + k) r)
      have HG := Lib.hid (fun r => grownBy_trans hg (grownBy_setCell _ g (ol + k) (.int .u64 r)))
      have HT2 := Lib.hid hT2
      clear hT hR hg hc1 hb1 hT2 r3 hcap3
      generalize hxe : ds.getD k 0 = x at *
      have HXE := Lib.hid hxe
      clear hxe
      generalize p.getD k 0 = a at *
      have HA := Lib.hid (wadd_calls a x br wr)
      generalize (a + x + min br 1) % B64 = nv at *
      generalize (a + x + min br 1) / B64 = br' at *
      go_wp2_with fail
      refine (HA.out).mono ?_
      rintro e w' ⟨rfl, rfl⟩
      go_wp2_with fail
      go_roundw
      case rel => exact ⟨k + 1, br', by omega, by go_num, rfl, _, HT2.out, by have := HR.out nv; rw [HSet.out] at this; exact this, HG.out _⟩
      case measure => simp only [intOf]; omega
    · obtain rfl : k = ds.length := by omega
      have hcd := hR.cell (k := ol + ds.length) (by omega)
      have hfd := hR.free (ol + ds.length)
      rw [← HOL.out, mid_get hT.1 (by omega)] at hcd
      rw [HOL.out] at hcd
      have hT2 := hT.step (by decide) hp hds
      have e0 : ds.getD ds.length 0 = 0 := by simp [List.getD]
      rw [e0] at hT2
      have HSet := Lib.hid (fun v => mid_set (lo := lo) (p := p) (hi := hi) (v := v) hT.1 (show ds.length < p.length by omega))
      rw [HOL.out] at HSet
      have HR := Lib.hid (fun r => hR.set (ol + ds.length) r)
      have HG := Lib.hid (fun r => grownBy_trans hg (grownBy_setCell _ g (ol + ds.length) (.int .u64 r)))
      have HT2 := Lib.hid hT2
      clear hT hR hg hT2
      generalize p.getD ds.length 0 = a at *
      have HA := Lib.hid (wadd_calls a 0 br wr)
      generalize (a + 0 + min br 1) % B64 = nv at *
      generalize (a + 0 + min br 1) / B64 = br' at *
      go_wp2_with fail
      refine (HA.out).mono ?_
      rintro e w' ⟨rfl, rfl⟩
      go_wp2_with fail
      go_ret
      refine ⟨ns ++ [nv], br', rfl, HT2.out.2.2.1, by rw [HT2.out.1, hl], HT2.out.2.1, HT2.out.whole hl (by omega), ?_, HG.out _⟩
      have := HR.out nv
      rw [HSet.out, List.drop_of_length_le (by omega), List.append_nil] at this
      exact this

end Go.Proofs.YthlpfhenaakljaaGreatDoor

namespace Go.Proofs.YthlpfhenaakljaaGreatDoor
open Go.RowKit

/-- What quo.Div answers. -/
def RetDiv (m n : Nat) (w : World) (e : Ending) (w' : World) : Prop :=
  Below w.heap.size w w' ∧ (n = 0 → e = .returned (.tuple #[.slice none 0 0, .slice none 0 0, .int .i64 7])) ∧
  (n ≠ 0 → ∃ q r, e = .returned (.tuple #[q, r, .int .i64 0]) ∧ No w.heap.size w' q (Dg.db B64 (m / n)) ∧ No w.heap.size w' r (Dg.db B64 (m % n)))

theorem No.nil (B : Nat) (w : World) : No B w (.slice none 0 0) [] := ⟨Ws.nil, World.ownsRow_nil w B _ _⟩
theorem No.slice {B : Nat} {w : World} {v : Value} {xs : List Nat} (h : No B w v xs) : ∃ a cap, v = .slice a xs.length cap := by
  obtain ⟨_, a, cap, e, _⟩ := h.nv; exact ⟨a, cap, e⟩

theorem db_len_le {xs : List Nat} (hx : Ws xs) {L : Nat} (hl : xs.length ≤ L) : (Dg.db B64 (Dg.dv B64 xs)).length ≤ L :=
  Nat.le_trans (Dg.db_length (by decide) (Dg.dv_lt xs hx)) hl

set_option maxHeartbeats 1600000 in
set_option maxRecDepth 100000 in
theorem div0_calls (v1 v2 : Value) (xs ys : List Nat) (w : World) (h1 : Nv w v1 xs) (h2 : Nv w v2 ys) (l1 : xs.length ≤ 1099511627776) (l2 : ys.length ≤ 1099511627776) (h0 : Dg.dv B64 ys = 0) :
    Calls Tryz.prog 46 #[v1, v2] w (RetDiv (Dg.dv B64 xs) (Dg.dv B64 ys) w) := by
  have T1 := Lib.hid (trim_calls v1 xs w h1 (by omega))
  have T2 := Lib.hid (fun w1 (hb : Below w.heap.size w w1) => trim_calls v2 ys w1 (h2.below hb) (by omega))
  rw [h0] at T2 ⊢
  clear h1 h2 l1 l2
  go_enter Tryz.func46, Tryz.ntmps46
  go_wp2_with fail
  refine (T1.out).mono ?_
  rintro e w1 ⟨v1', rfl, hn1, hb1⟩
  go_wp2_with fail
  refine (T2.out _ hb1).mono ?_
  rintro e w2 ⟨v2', rfl, hn2, hb2⟩
  obtain ⟨a2, c2, rfl⟩ := hn2.slice
  have hl : (Dg.db B64 0).length = 0 := rfl
  have H1 := Lib.hid hb1
  have H2 := Lib.hid hb2
  clear hn1 hn2 hb1 hb2 T1 T2
  rw [hl]
  go_wp2_with fail
  go_ret3
  exact ⟨H1.out.trans (H2.out.mono H1.out.size), fun _ => rfl, (fun h => absurd rfl h)⟩

set_option maxHeartbeats 1600000 in
set_option maxRecDepth 100000 in
theorem div1_calls (v1 v2 : Value) (xs ys : List Nat) (w : World) (h1 : Nv w v1 xs) (h2 : Nv w v2 ys) (l1 : xs.length ≤ 1099511627776) (l2 : ys.length ≤ 1099511627776) (hlt : Dg.dv B64 xs < Dg.dv B64 ys) :
    Calls Tryz.prog 46 #[v1, v2] w (RetDiv (Dg.dv B64 xs) (Dg.dv B64 ys) w) := by
  have T1 := Lib.hid (trim_calls v1 xs w h1 (by omega))
  have T2 := Lib.hid (fun w1 (hb : Below w.heap.size w w1) => trim_calls v2 ys w1 (h2.below hb) (by omega))
  have k1 := db_len_le h1.1 l1
  have k2 := db_len_le h2.1 l2
  have hpos : 0 < (Dg.db B64 (Dg.dv B64 ys)).length := by
    rcases Nat.eq_zero_or_pos (Dg.db B64 (Dg.dv B64 ys)).length with h | h
    · have := (Dg.db_nil_iff (by decide : 2 ≤ B64)).1 (List.eq_nil_of_length_eq_zero h); omega
    · exact h
  generalize Dg.dv B64 xs = m at *
  generalize Dg.dv B64 ys = n at *
  have HL := Lib.hid hlt
  clear h1 h2 l1 l2 hlt
  have K := Lib.hid (fun va vb wx (ha : Nv wx va (Dg.db B64 m)) (hb : Nv wx vb (Dg.db B64 n)) => cmp_calls va vb _ _ wx ha hb (by omega) (by omega))
  rw [Dg.dv_db (by decide), Dg.dv_db (by decide), Dg.cmpZ_lt HL.out] at K
  generalize hle : (Dg.db B64 n).length = L at *
  have HE := Lib.hid hle
  clear hle k1 k2
  go_enter Tryz.func46, Tryz.ntmps46
  go_wp2_with fail
  refine (T1.out).mono ?_
  rintro e w1 ⟨v1', rfl, hn1, hb1⟩
  go_wp2_with fail
  refine (T2.out _ hb1).mono ?_
  rintro e w2 ⟨v2', rfl, hn2, hb2⟩
  obtain ⟨a2, c2, rfl⟩ := hn2.slice
  have HK := Lib.hid (K.out _ _ _ (hn1.below hb2).nv hn2.nv)
  have H1 := Lib.hid hb1
  have H2 := Lib.hid hb2
  have HN := Lib.hid (hn1.below hb2)
  clear hn1 hn2 hb1 hb2 T1 T2 K
  rw [HE.out] at *
  go_wp2_with fail
  refine (HK.out).mono ?_
  rintro e w' ⟨rfl, rfl⟩
  go_wp2_with fail
  go_ret3
  refine ⟨H1.out.trans (H2.out.mono H1.out.size), (fun h => by have := HL.out; omega), fun _ => ⟨_, _, rfl, ?_, ?_⟩⟩
  · rw [Nat.div_eq_of_lt HL.out]; exact No.nil _ _
  · rw [Nat.mod_eq_of_lt HL.out]; exact HN.out

set_option maxHeartbeats 1600000 in
set_option maxRecDepth 100000 in
theorem div2_calls (v1 v2 : Value) (xs ys : List Nat) (w : World) (h1 : Nv w v1 xs) (h2 : Nv w v2 ys) (l1 : xs.length ≤ 1099511627776) (l2 : ys.length ≤ 1099511627776) (hle : Dg.dv B64 ys ≤ Dg.dv B64 xs)
    (hone : (Dg.db B64 (Dg.dv B64 ys)).length = 1) :
    Calls Tryz.prog 46 #[v1, v2] w (RetDiv (Dg.dv B64 xs) (Dg.dv B64 ys) w) := by
  have T1 := Lib.hid (trim_calls v1 xs w h1 (by omega))
  have T2 := Lib.hid (fun w1 (hb : Below w.heap.size w w1) => trim_calls v2 ys w1 (h2.below hb) (by omega))
  have k1 := db_len_le h1.1 l1
  generalize Dg.dv B64 xs = m at *
  generalize Dg.dv B64 ys = n at *
  have hdv : Dg.dv B64 (Dg.db B64 n) = n := Dg.dv_db (by decide) n
  have hws := Dg.db_Ds (by decide : 2 ≤ B64) n
  obtain ⟨y, hy⟩ : ∃ y, Dg.db B64 n = [y] := List.length_eq_one_iff.1 hone
  have hyn : y = n := by rw [hy] at hdv; simpa [Dg.dv] using hdv
  subst hyn
  have hyb : y < B64 := by rw [hy] at hws; exact hws y (by simp)
  have hy0 : 0 < y := by
    rcases Nat.eq_zero_or_pos y with rfl | h
    · simp [Dg.db_zero] at hy
    · exact h
  rw [hy] at T2
  clear h1 h2 l1 l2 hdv hws
  have K := Lib.hid (fun va vb wx (ha : Nv wx va (Dg.db B64 m)) (hb : Nv wx vb [y]) => cmp_calls va vb _ _ wx ha hb (by omega) (by simp))
  have e1 : Dg.dv B64 [y] = y := by simp [Dg.dv]
  rw [Dg.dv_db (by decide), e1] at K
  have hcz := (Dg.cmpZ_nonneg (m := m) (n := y)).2 hle
  have S := Lib.hid (fun va wx (ha : Nv wx va (Dg.db B64 m)) => short_calls va _ y wx ha (by omega) hy0 hyb)
  rw [Dg.dv_db (by decide)] at S
  have O := Lib.hid (fun wx => of_calls (m % y) wx (Nat.lt_trans (Nat.mod_lt _ hy0) hyb))
  have hne := Lib.hid (show y ≠ 0 by omega)
  generalize hre : m % y = r at *
  generalize hqe : m / y = q at *
  have HRE := Lib.hid hre
  have HQE := Lib.hid hqe
  clear hre hqe
  generalize Dg.cmpZ m y = cz at *
  clear e1 hle hone hy hyb hy0
  go_enter Tryz.func46, Tryz.ntmps46
  go_wp2_with fail
  refine (T1.out).mono ?_
  rintro e w1 ⟨v1', rfl, hn1, hb1⟩
  go_wp2_with fail
  refine (T2.out _ hb1).mono ?_
  rintro e w2 ⟨v2', rfl, hn2, hb2⟩
  obtain ⟨_, a2, c2, rfl, hc2, r2⟩ := hn2.nv
  obtain ⟨b2, o2, rfl, hlt2, hcell⟩ := r2.cell (fun h => by cases h)
  have hcy := hcell 0 (by simp)
  have e2 : ([y].getD 0 0 : Nat) = y := rfl
  rw [e2, Nat.add_zero] at hcy
  have hl1 : ([y] : List Nat).length = 1 := rfl
  rw [hl1] at hc2 hn2 ⊢
  have HK := Lib.hid (K.out _ _ _ (hn1.below hb2).nv hn2.nv)
  have HS := Lib.hid (S.out _ _ (hn1.below hb2).nv)
  have H1 := Lib.hid hb1
  have H2 := Lib.hid hb2
  clear hn1 hn2 hb1 hb2 T1 T2 K hcell r2 S
  go_wp2_with fail
  refine (HK.out).mono ?_
  rintro e w' ⟨rfl, rfl⟩
  go_wp2_with fail
  refine (HS.out).mono ?_
  rintro e w3 ⟨vq, rfl, hnq, hb3⟩
  clear hcy
  go_wp2_with fail
  refine (O.out _).mono ?_
  rintro e w4 ⟨vr, rfl, hnr, hb4⟩
  go_wp2_with fail
  go_ret3
  have b2 := H1.out.trans (H2.out.mono H1.out.size)
  have b3 := b2.trans (hb3.mono b2.size)
  have b4 := b3.trans (hb4.mono b3.size)
  exact ⟨b4, (fun h => absurd h hne.out), fun _ => ⟨vq, vr, rfl, by rw [HQE.out]; exact (hnq.mono b2.size).below hb4, by rw [HRE.out]; exact hnr.mono b3.size⟩⟩

end Go.Proofs.YthlpfhenaakljaaGreatDoor

namespace Go.Proofs.YthlpfhenaakljaaGreatDoor
open Go.RowKit

/-- What the rounds of the long division keep. -/
def DivSt (w0 : World) (Bl U D n la nq gl gq : Nat) (vd : Value) (ds : List Nat) (k : Nat) (wr : World) : Prop :=
  ∃ ls qs, Dg.DivAt B64 U D n la k ls qs ∧ RowIn Bl wr gl (la + 1) ls ∧ RowIn w0.heap.size wr gq nq qs ∧ No w0.heap.size wr vd ds ∧ Below w0.heap.size w0 wr

/-- What the giving back keeps. -/
def DivIn (w0 : World) (Bl D n P la nq gl gq i : Nat) (lo hi qs : List Nat) (vd : Value) (ds : List Nat) (wr : World) : Prop :=
  ∃ p' q', Dg.TooMuch B64 (n + 1) P D q' (Dg.dv B64 p') ∧ Ws p' ∧ p'.length = n + 1 ∧ q' < B64 ∧ RowIn Bl wr gl (la + 1) (lo ++ (p' ++ hi)) ∧ RowIn w0.heap.size wr gq nq (qs.set i q') ∧ No w0.heap.size wr vd ds ∧ Below w0.heap.size w0 wr

/-- A row of the call's own that is not empty. -/
theorem No.row {B : Nat} {w : World} {v : Value} {xs : List Nat} (h : No B w v xs) (hne : xs ≠ []) : ∃ g cap, v = .slice (some ⟨g, 0, none⟩) xs.length cap ∧ xs.length ≤ cap ∧ B ≤ g ∧ g < w.heap.size := by
  rcases h.2.2 with ⟨_, h0⟩ | ⟨g, cap, cur, rfl, hb, hg, hc, _⟩
  · exact absurd (List.eq_nil_of_length_eq_zero h0) hne
  · exact ⟨g, cap, rfl, hc, hb, (Array.getElem?_eq_some_iff.1 hg).1⟩

theorem RowIn.nv {B : Nat} {w : World} {g N cap : Nat} {ls : List Nat} (h : RowIn B w g N ls) (hd : Ws ls) (hc : N ≤ cap) : Nv w (.slice (some ⟨g, 0, none⟩) N cap) ls := by
  obtain ⟨c2, hc2, hno⟩ := h.no hd
  obtain ⟨hw, a, c3, e, hc3, hr⟩ := hno.nv
  simp only [Value.slice.injEq] at e
  obtain ⟨rfl, e2, rfl⟩ := e
  exact ⟨hw, _, cap, by rw [e2], by omega, hr⟩

theorem shl_ok (v : Value) (xs : List Nat) (s : Nat) (N : Int) (hN : N = (s : Int)) (w : World) (hv : Nv w v xs) (hl : xs.length ≤ 1099511627776) (hs : s ≤ 63) :
    Calls Tryz.prog 55 #[v, .int .i64 N] w fun e w' => ∃ v', e = .returned (.tuple #[v', .int .i64 0]) ∧ No w.heap.size w' v' (Dg.db B64 (Dg.dv B64 xs * 2 ^ s)) ∧ Below w.heap.size w w' := by
  subst hN
  refine (shl_calls v xs s w hv hl).mono fun e w' h => ?_
  exact h.1 (decide_eq_true ⟨by omega, by omega⟩)
theorem shr_ok (v : Value) (xs : List Nat) (s : Nat) (N : Int) (hN : N = (s : Int)) (w : World) (hv : Nv w v xs) (hl : xs.length ≤ 1099511627776) (hs : s ≤ 63) :
    Calls Tryz.prog 82 #[v, .int .i64 N] w fun e w' => ∃ v', e = .returned (.tuple #[v', .int .i64 0]) ∧ No w.heap.size w' v' (Dg.db B64 (Dg.dv B64 xs / 2 ^ s)) ∧ Below w.heap.size w w' := by
  subst hN
  refine (shr_calls v xs s w hv hl).mono fun e w' h => ?_
  exact h.1 (decide_eq_true ⟨by omega, by omega⟩)

theorem part_get (ls : List Nat) (i : Nat) {j n : Nat} (h : j < n) : ((ls.drop i).take n).getD j 0 = ls.getD (i + j) 0 := by
  simp [List.getD, h]

theorem Ws.append' {xs ys : List Nat} (h : Ws xs) (k : Ws ys) : Ws (xs ++ ys) := Dg.Ds.append h k

set_option maxHeartbeats 6400000 in
set_option maxRecDepth 100000 in
theorem div3_calls (v1 v2 : Value) (xs ys : List Nat) (w : World) (h1 : Nv w v1 xs) (h2 : Nv w v2 ys) (l1 : xs.length ≤ 549755813888) (l2 : ys.length ≤ 549755813888) (hle : Dg.dv B64 ys ≤ Dg.dv B64 xs)
    (T : Nat) (hT : 1 ≤ T) (hone : (Dg.db B64 (Dg.dv B64 ys)).length = T + 1) :
    Calls Tryz.prog 46 #[v1, v2] w (RetDiv (Dg.dv B64 xs) (Dg.dv B64 ys) w) := by
  obtain ⟨i0, hi, hz0, hz1, hz2⟩ := info_parts info_u64
  have T1 := Lib.hid (trim_calls v1 xs w h1 (by omega))
  have T2 := Lib.hid (fun w1 (hb : Below w.heap.size w w1) => trim_calls v2 ys w1 (h2.below hb) (by omega))
  have k1 := db_len_le h1.1 l1
  generalize Dg.dv B64 xs = m at *
  generalize Dg.dv B64 ys = n at *
  clear h1 h2 l1 l2
  have hcz := (Dg.cmpZ_nonneg (m := m) (n := n)).2 hle
  obtain ⟨t1, t2, t3⟩ := Dg.top_digit (b := B64) (by decide) hone
  obtain ⟨s, hs⟩ : ∃ s, s = 64 - Dg.bl (n / B64 ^ T) := ⟨_, rfl⟩
  obtain ⟨s1, s2, s3, s4⟩ := Dg.shift_D (n := n) (k := T) hone hs
  have hbl : Dg.bl (n / B64 ^ T) ≤ 64 := Dg.bl_le (by have := t3; rwa [B64_pow] at this)
  have hblp : 0 < Dg.bl (n / B64 ^ T) := Dg.bl_pos (by omega)
  have hla : T + 1 ≤ (Dg.db B64 m).length := Dg.db_length_gt (by decide) (Nat.le_trans s4 hle)
  have hm := Dg.lt_pow_length (b := B64) (by decide) m
  have hs2 : 2 ^ s ≤ B64 := by rw [B64_pow]; exact Nat.pow_le_pow_right (by decide) (by omega)
  have hsl := Dg.shifted_len (b := B64) (by decide) hm hs2
  have hdl : (Dg.db B64 (n * 2 ^ s)).length = T + 1 := Dg.length_eq (by decide) s2 s3
  have hst := fun z hz => Dg.DivAt.start (b := B64) (m := m) (n := n) (s := s) (by decide) hm hla s4 (z := z) hz
  have hn0 : 0 < n := Nat.lt_of_lt_of_le (Nat.pow_pos (by decide)) s4
  have hD0 : 0 < n * 2 ^ s := Nat.mul_pos hn0 (Nat.two_pow_pos s)
  have hU0 : 0 < m * 2 ^ s := Nat.mul_pos (by omega) (Nat.two_pow_pos s)
  obtain ⟨d1, d2, d3⟩ := Dg.top_digit (b := B64) (by decide) hdl
  have K := Lib.hid (fun va vb wx (ha : Nv wx va (Dg.db B64 m)) (hb : Nv wx vb (Dg.db B64 n)) => cmp_calls va vb _ _ wx ha hb (by omega) (by omega))
  rw [Dg.dv_db (by decide), Dg.dv_db (by decide)] at K
  have WL := Lib.hid (fun wx => wlen_calls (n / B64 ^ T) wx t3)
  have S1 := Lib.hid (fun va N hN wx (hv : Nv wx va (Dg.db B64 n)) => shl_ok va (Dg.db B64 n) s N hN wx hv (by omega) s1)
  have S2 := Lib.hid (fun va N hN wx (hv : Nv wx va (Dg.db B64 m)) => shl_ok va (Dg.db B64 m) s N hN wx hv (by omega) s1)
  have SR := Lib.hid (fun va ls N hN wx (hv : Nv wx va ls) hl => shr_ok va ls s N hN wx hv hl s1)
  rw [Dg.dv_db (by decide)] at S1 S2
  generalize htop : n / B64 ^ T = top at *
  have hsB : (64 : Int) - (Dg.bl top : Nat) = (s : Int) := by omega
  have hDlt : n * 2 ^ s < B64 ^ (T + 1) := s3
  have hdtop : 0 < (Dg.db B64 (n * 2 ^ s)).getD T 0 := by rw [d1]; exact d2
  have hdv : n * 2 ^ s = Dg.dv B64 (Dg.db B64 (n * 2 ^ s)) := (Dg.dv_db (by decide) _).symm
  have hune : Dg.db B64 (m * 2 ^ s) ≠ [] := fun h => by have := (Dg.db_nil_iff (by decide : 2 ≤ B64)).1 h; omega
  have hdne : Dg.db B64 (n * 2 ^ s) ≠ [] := fun h => by have := (Dg.db_nil_iff (by decide : 2 ≤ B64)).1 h; omega
  have hmne : Dg.db B64 m ≠ [] := fun h => by rw [h] at hla; simp at hla
  have hnne : Dg.db B64 n ≠ [] := fun h => by rw [h] at hone; simp at hone
  have hfin := Lib.hid (show m * 2 ^ s / (n * 2 ^ s) = m / n ∧ m * 2 ^ s % (n * 2 ^ s) / 2 ^ s = m % n from Dg.div_shift hn0)
  generalize hUe : m * 2 ^ s = U at *
  generalize hDe : n * 2 ^ s = D at *
  clear hUe hDe t2 hs2 d1 d2 d3 hm s2 s3 s4 htop hs hU0
  obtain ⟨z, hz⟩ : ∃ z, (Dg.db B64 U).length + z = (Dg.db B64 m).length + 1 := ⟨(Dg.db B64 m).length + 1 - (Dg.db B64 U).length, by omega⟩
  have HST := Lib.hid (hst z hz)
  have HTop := Lib.hid t1
  have HLm := Lib.hid hmne
  have HLn := Lib.hid hnne
  have HLu := Lib.hid hune
  have HLd := Lib.hid hdne
  have HDT := Lib.hid hdtop
  have HDV := Lib.hid hdv
  have HDL := Lib.hid hDlt
  have hDpos := Lib.hid hD0
  clear hD0
  have HWm := Lib.hid (Dg.db_Ds (by decide : 2 ≤ B64) m)
  have HN0 := Lib.hid hn0
  clear hst t1 hmne hnne hune hdne hdtop hdv hDlt hn0 hle
  generalize hAe : Dg.db B64 m = A at *
  generalize hBe : Dg.db B64 n = Bn at *
  generalize hue : Dg.db B64 U = us0 at *
  generalize hde : Dg.db B64 D = ds at *
  have HUE := Lib.hid hue
  clear hAe hBe hue hde
  generalize hL : Bn.length = L at *
  generalize hla' : A.length = la at *
  generalize hlu : us0.length = lu at *
  generalize hld : ds.length = ld at *
  have HL := Lib.hid hL
  have HLA := Lib.hid hla'
  have HLU := Lib.hid hlu
  have HLD := Lib.hid hld
  clear hL hla' hlu hld
  subst hone
  subst hdl
  go_enter Tryz.func46, Tryz.ntmps46
  go_wp2_with fail
  refine (T1.out).mono ?_
  rintro e w1 ⟨v1', rfl, hn1, hb1⟩
  go_wp2_with fail
  refine (T2.out _ hb1).mono ?_
  rintro e w2 ⟨v2', rfl, hn2, hb2⟩
  obtain ⟨ga, ca, rfl, hca, hga, hga2⟩ := hn1.row HLm.out
  obtain ⟨gb, cb, rfl, hcb, hgb, hgb2⟩ := hn2.row HLn.out
  obtain ⟨_, ab, cpb, e4, hcb, rb⟩ := hn2.nv
  simp only [Value.slice.injEq, true_and] at e4
  obtain ⟨rfl, rfl⟩ := e4
  obtain ⟨b2, o2, e5, hlt2, hcell⟩ := rb.cell HLn.out
  simp only [Option.some.injEq, Addr.mk.injEq, and_true] at e5
  obtain ⟨rfl, rfl⟩ := e5
  have hcT := hcell T (by rw [HL.out]; omega)
  rw [HTop.out, Nat.zero_add] at hcT
  have hn1' := hn1.below hb2
  have HK := Lib.hid (K.out _ _ _ hn1'.nv hn2.nv)
  have HB2 := Lib.hid (hb1.trans (hb2.mono hb1.size))
  have HN1 := Lib.hid hn1'
  have HN2 := Lib.hid hn2
  rw [HL.out] at HN2 HK hcb ⊢
  rw [HLA.out] at HN1 HK hca ⊢
  clear hn1 hn1' hn2 hb1 hb2 T1 T2 K hcell rb hga hga2 hgb hgb2 hlt2
  generalize Dg.cmpZ m n = cz at *
  have hTL : ((T + 1 : Nat) : Int) - 1 = (T : Int) := by omega
  go_wp2_with fail
  refine (HK.out).mono ?_
  rintro e w' ⟨rfl, rfl⟩
  go_wp2_with fail
  refine (WL.out _).mono ?_
  rintro e w' ⟨rfl, rfl⟩
  generalize Dg.bl top = btop at *
  go_wp2_with fail
  refine (S1.out _ _ (by omega) _ HN2.out.nv).mono ?_
  rintro e w3 ⟨vd, rfl, hnd, hb3⟩
  obtain ⟨gd, cd, rfl, hcd, hgd, hgd2⟩ := hnd.row HLd.out
  have HB3 := Lib.hid (HB2.out.trans (hb3.mono HB2.out.size))
  have HN1' := Lib.hid (HN1.out.below hb3)
  have HND := Lib.hid (hnd.mono HB2.out.size)
  rw [HLD.out] at HND hcd ⊢
  clear hnd hb3 HN1 HN2 hcT
  go_wp2_with fail
  refine (S2.out _ _ (by omega) _ HN1'.out.nv).mono ?_
  rintro e w4 ⟨vs, rfl, hns, hb4⟩
  obtain ⟨gs, cs, rfl, hcs, hgs, hgs2⟩ := hns.row HLu.out
  have HB4 := Lib.hid (HB3.out.trans (hb4.mono HB3.out.size))
  have HND4 := Lib.hid (HND.out.below hb4)
  have hown := hns.2
  rw [HLU.out] at hown hcs ⊢
  have hsz4 := hb4.size
  have hB3 := HB3.out.size
  clear hns hb4 HN1' HND S1 S2 HK WL
  have hzI : (la : Int) + 1 - (lu : Int) = (z : Int) := by omega
  obtain ⟨nq, hnq⟩ : ∃ nq, nq = la - (T + 1) + 1 := ⟨_, rfl⟩
  have hnqI : (la : Int) - ((T + 1 : Nat) : Int) + 1 = (nq : Int) := by omega
  have hnqL : nq ≤ 1099511627777 := by omega
  have hnqa : (nq : Int) ≤ (la : Int) - T := by omega
  have hnqb : (la : Int) - T ≤ nq := by omega
  have HNQ := Lib.hid hnq
  clear hnq
  go_wp2_with (at_builtin; refine wpList_append_zeros rfl _ _ rfl w3.heap.size gs lu cs z (us us0) rfl rfl hown ?c1 ?c2 ?c3 ?_)
  case c1 => omega
  case c2 => omega
  case c3 => omega
  intro vl w5 hown5 hg5
  have hln : (us0 ++ List.replicate z 0).length = la + 1 := by simp; rw [HLU.out]; omega
  have hnl : No w3.heap.size w5 vl (us0 ++ List.replicate z 0) := by
    refine ⟨(by rw [← HUE.out]; exact Dg.db_Ds (by decide) U : Ws us0).append' (by intro x hx; rw [List.eq_of_mem_replicate hx]; decide), ?_⟩
    rw [us_append, us_replicate, hln]
    exact hown5
  obtain ⟨gl, cl, rfl, hcl, hgl, hgl2⟩ := hnl.row (fun h => by rw [h] at hln; simp at hln)
  have hrl : RowIn w3.heap.size w5 gl (la + 1) (us0 ++ List.replicate z 0) := ⟨hln, cl, by have := hnl.2; rw [hln] at this; exact this⟩
  have HRL := Lib.hid hrl
  have HB5 := Lib.hid (HB4.out.grown hg5 (Nat.le_trans hB3 hsz4) (fun k hk => by simp at hk; omega))
  have HND5 := Lib.hid (HND4.out.kept hg5 (by simp [Value.ownBlock]; omega))
  rw [hln] at hcl ⊢
  clear hnl hrl hown5 hg5 hown HND4 hgs2 hcs hln
  go_wp2_with (at_make; refine wpList_make_full _ rfl _ _ 23 rfl w5.heap.size 43 i0 (.int .u64 0) 1 und_Nat hi hz0 hz1 .i64 .i64 _ _ nq rfl rfl ?_ ?_ ?_ ?_ ?_ ?_)
  · omega
  · omega
  · rw [hz2]; omega
  · unfold maxLen; omega
  · omega
  intro w6 hown6 hg6
  have hrq : RowIn w.heap.size w6 w5.heap.size nq (List.replicate nq 0) := by
    refine ⟨by simp, nq, ?_⟩
    rw [us_replicate, ← toList_madeCells_one]; exact ownsRow_mono hown6 HB5.out.size
  have HRQ := Lib.hid hrq
  have HRL6 := Lib.hid (HRL.out.kept hg6 (by simp))
  have HB6 := Lib.hid (HB5.out.grown hg6 HB5.out.size (fun k hk => by simp at hk))
  have HND6 := Lib.hid (HND5.out.kept hg6 (by simp [Value.ownBlock]))
  have hglq : gl ≠ w5.heap.size := by omega
  have hgdq : gd ≠ w5.heap.size := by have := HB5.out.size; omega
  have hgdl : gd ≠ gl := by omega
  clear hrq hown6 hg6 HRL HND5 HB5 HB4 HB3 HB2 hi hz0 hz1 hz2
  generalize w5.heap.size = gq at *
  clear hgd hgl2 hgl hgs hgd2 hsz4
  have HI := Lib.hid (show DivSt w w3.heap.size U D (T + 1) la nq gl gq (.slice (some ⟨gd, 0, none⟩) (T + 1) cd) ds nq w6 from ⟨_, _, by have := HST.out; rw [← HNQ.out] at this; exact this, HRL6.out, HRQ.out, HND6.out, HB6.out⟩)
  clear HST HRL6 HRQ HND6 HB6
  generalize w3.heap.size = Bl at *
  go_wp2_with fail
  go_loopw [16] (fun s wr => ∃ k : Nat, k ≤ nq ∧ s = .int .i64 ((k : Int) - 1) ∧ Hid (DivSt w Bl U D (T + 1) la nq gl gq (.slice (some ⟨gd, 0, none⟩) (T + 1) cd) ds k wr)) (fun s _ => (intOf s + 1).toNat)
  case atStart => exact ⟨nq, Nat.le_refl _, rfl, HI⟩
  case round =>
    obtain ⟨k, hk, rfl, hrel⟩ := hrel
    clear HI
    by_cases h0 : 0 < k
    · obtain ⟨i, rfl⟩ : ∃ i, k = i + 1 := ⟨k - 1, by omega⟩
      have hei : ((i + 1 : Nat) : Int) - 1 = (i : Int) := by omega
      rw [hei]
      obtain ⟨ls, qs, hD, hrl, hrq, hnd, hb⟩ := hrel.out
      have hil : i + (T + 1) + 1 ≤ la + 1 := by omega
      obtain ⟨q1, q2, q3, q4⟩ := hD.part (by decide) HDL.out hil
      have hWls : Ws ls := hD.2.1
      have hcn := hrl.cell (k := i + (T + 1)) (by omega)
      have hcm := hrl.cell (k := i + T) (by omega)
      rw [← part_get ls i (show T + 1 < T + 1 + 1 by omega)] at hcn
      rw [← part_get ls i (show T < T + 1 + 1 by omega)] at hcm
      have hWp : Ws ((ls.drop i).take (T + 1 + 1)) := (Dg.Ds.drop hWls i).take _
      have hlo := hWp.getD T
      have hdd := hnd.1.getD T
      obtain ⟨hg1, hg2⟩ := Dg.guess_good (b := B64) (by decide) (p := (ls.drop i).take (T + 1 + 1)) (ds := ds) (g := guessV (((ls.drop i).take (T + 1 + 1)).getD (T + 1) 0) (((ls.drop i).take (T + 1 + 1)).getD T 0) (ds.getD T 0)) hWp q1 HLD.out HDT.out (by rw [← HDV.out]; exact q2) rfl
      obtain ⟨_, a3, cp3, e3, hcap3, r3⟩ := hnd.nv
      obtain ⟨b3, o3, rfl, hb3, hc3⟩ := r3.cell HLd.out
      simp only [Value.slice.injEq, Option.some.injEq, Addr.mk.injEq, and_true] at e3
      obtain ⟨⟨rfl, rfl⟩, e3l, rfl⟩ := e3
      have hcd' := hc3 T (by omega)
      rw [Nat.zero_add] at hcd'
      have hcq := hrq.cell (k := i) (by omega)
      have hfq := hrq.free i
      have HG := Lib.hid (fun wx => guess_calls (((ls.drop i).take (T + 1 + 1)).getD (T + 1) 0) (((ls.drop i).take (T + 1 + 1)).getD T 0) (ds.getD T 0) wx HDT.out hlo hdd)
      have HWp := Lib.hid hWp
      have HQ1 := Lib.hid q1
      have HP := Lib.hid hg1
      have HGB := Lib.hid hg2
      have HRL := Lib.hid hrl
      have HRQ := Lib.hid hrq
      have HND := Lib.hid hnd
      have HB := Lib.hid hb
      have HD := Lib.hid hD
      have HTK := Lib.hid (fun wx (hx : RowIn Bl wx gl (la + 1) ls) (hy : No w.heap.size wx (.slice (some ⟨gd, 0, none⟩) (T + 1) cd) ds) gg (hgg : gg < B64) =>
        take_calls (ls.take i) ((ls.drop i).take (T + 1 + 1)) (ls.drop (i + (T + 1 + 1))) ds (.slice (some ⟨gd, 0, none⟩) (T + 1) cd) Bl w.heap.size gl (la + 1) gg (cl - i) wx (by rw [← Dg.three]; exact hx) hWp hy (by simpa [Value.ownBlock] using hgdl) (by rw [q1, HLD.out]) (by omega) hgg)
      have hlti : (ls.take i).length = i := by rw [List.length_take]; have := hrl.1; omega
      rw [HLD.out, hlti] at HTK
      have HLTI := Lib.hid hlti
      clear hg1 hg2 hrl hrq hnd hb hD q1 q2 q3 q4 hWls hWp hlo hdd hc3 hb3 r3 hcap3 e3l hlti
      generalize hhi : ((ls.drop i).take (T + 1 + 1)).getD (T + 1) 0 = vh at *
      generalize hvl : ((ls.drop i).take (T + 1 + 1)).getD T 0 = vl at *
      generalize hvd : ds.getD T 0 = vt at *
      generalize hgd : guessV vh vl vt = g at *
      generalize hqo : qs.getD i 0 = qo at *
      have hsub : i + (T + 1) + 1 - i = T + 1 + 1 := by omega
      have ib1 : (0 : Int) ≤ (T : Int) + 1 := by omega
      have ib2 : (T : Int) < (T : Int) + 1 := by omega
      have ib3 : (T : Int) < (T : Int) + 1 + 1 := by omega
      have ib5 : IntKind.i64.wrap (T : Int) = (T : Int) := by rw [IntKind.wrap_i64]; omega
      have ib4 : (i : Int) < (nq : Int) := by omega
      go_wp2_with fail
      refine wp_region_quiet_tail 18 (by kernel_rfl) (by kernel_rfl) ?_
      simp only [List.take_succ_cons, List.take_zero, List.drop_succ_cons, List.drop_zero]
      repeat (quiet_step (exact Calls.quiet_of (HG.out _)))
      refine wpQuiet_nil ?_
      intro _ hw'
      obtain ⟨nd, rfl⟩ := hw'
      clear hcn hcm hcd' hcq hfq
      have hbd := below_drewN (Below.refl wr.heap.size wr) nd
      have HRL := Lib.hid (HRL.out.below hbd)
      have hrq := HRQ.out.below hbd
      have HND := Lib.hid (HND.out.below hbd)
      have HB := Lib.hid (HB.out.trans (hbd.mono HB.out.size))
      clear hbd
      generalize wr.drewN nd = wd at *
      have hfq := hrq.free i
      have hcq := hrq.cell (k := i) (by omega)
      rw [hqo] at hcq
      have hg1 := hrq.set i g
      have hgs1 := grownBy_setCell wd gq i (.int .u64 g)
      have HRL2 := Lib.hid (HRL.out.kept hgs1 (by simpa using hglq))
      have HND2 := Lib.hid (HND.out.kept hgs1 (by simpa [Value.ownBlock] using hgdq))
      have HB2 : Hid (Below w.heap.size w (wd.setCell ⟨gq, i, none⟩ (.int .u64 g))) := Lib.hid (HB.out.setCell (hrq.lt).1 _)
      have HRQ2 := Lib.hid hg1
      clear hgs1 hg1 hrq
      go_wp2_with fail
      refine (HTK.out _ HRL2.out HND2.out g HGB.out).mono ?_
      rintro e w7 ⟨p', c, rfl, hc1, hpl, hWp', hK, hrl7, hg7⟩
      have HRQ7 := Lib.hid (HRQ2.out.kept hg7 (by simpa using Ne.symm hglq))
      have HND7 := Lib.hid (HND2.out.kept hg7 (by simpa [Value.ownBlock] using hgdl))
      have hB2s := HB2.out.size
      have HB7 := Lib.hid (HB2.out.grown hg7 hB2s (fun k hk => by simp at hk; have := hrl7.lt.1; omega))
      have HRL7 := Lib.hid hrl7
      have HK := Lib.hid hK
      have HWp' := Lib.hid hWp'
      have HPL := Lib.hid (hpl.trans HQ1.out)
      clear hg7 hrl7 hB2s hK hWp' hpl HTK HRL HRL2 HRQ HRQ2 HND HND2 HB HB2 hcq hfq
      by_cases hc0 : c = 0
      · subst hc0
        go_wp2_with fail
        go_roundw
        case rel =>
          obtain ⟨hv, hlt⟩ := Dg.guess_right HK.out HP.out (by rw [← HDV.out]; exact hDpos.out)
          rw [← HDV.out] at hv hlt
          exact ⟨i, by omega, by go_num, _, _, HD.out.next (by decide) HDL.out hil HPL.out HWp'.out HGB.out hv hlt, HRL7.out, HRQ7.out, HND7.out, HB7.out⟩
        case measure => simp only [intOf]; omega
      · obtain rfl : c = 1 := by omega
        have hv1 : Dg.dv B64 p' + g * D = Dg.dv B64 ((ls.drop i).take (T + 1 + 1)) + B64 ^ (T + 1 + 1) := by
          have := HK.out; rw [HQ1.out, ← HDV.out, Nat.mul_one] at this; exact this
        have hlt1 : Dg.dv B64 p' < B64 ^ (T + 1 + 1) := by have := Dg.dv_lt p' HWp'.out; rw [HPL.out] at this; exact this
        obtain ⟨hgpos, hTM⟩ := Dg.TooMuch.of hv1 hlt1
        have hcq := HRQ7.out.cell (k := i) (by omega)
        have hfq := HRQ7.out.free i
        have e1 : (qs.set i g).getD i 0 = g := by have := HRQ7.out.1; simp at this; simp [List.getD, show i < qs.length by omega]
        rw [e1] at hcq
        have hRQ8 := HRQ7.out.set i (g - 1)
        rw [List.set_set] at hRQ8
        have hgs8 := grownBy_setCell w7 gq i (.int .u64 ((g - 1 : Nat) : Int))
        have HI2 := Lib.hid (show DivIn w Bl D (T + 1) (Dg.dv B64 ((ls.drop i).take (T + 1 + 1))) la nq gl gq i (ls.take i) (ls.drop (i + (T + 1 + 1))) qs (.slice (some ⟨gd, 0, none⟩) (T + 1) cd) ds (w7.setCell ⟨gq, i, none⟩ (.int .u64 ((g - 1 : Nat) : Int))) from
          ⟨p', g - 1, hTM, HWp'.out, HPL.out, by have := HGB.out; omega, HRL7.out.kept hgs8 (by simpa using hglq), hRQ8, HND7.out.kept hgs8 (by simpa [Value.ownBlock] using hgdq), HB7.out.setCell HRQ7.out.lt.1 _⟩)
        have hg1I : (g : Int) - 1 = ((g - 1 : Nat) : Int) := by omega
        have hgb : (g : Int) ≤ 18446744073709551615 := by have := HGB.out; have e : B64 = 18446744073709551616 := rfl; omega
        have hgl0 : (0 : Int) < (g : Int) := by omega
        clear hv1 hlt1 hTM hRQ8 hgs8 HRL7 HRQ7 HND7 HB7 e1
        generalize g - 1 = g1 at *
        go_wp2_with fail
        clear hcq hfq hg1I hgb hgl0
        go_loopw [] (fun wr => Hid (DivIn w Bl D (T + 1) (Dg.dv B64 ((ls.drop i).take (T + 1 + 1))) la nq gl gq i (ls.take i) (ls.drop (i + (T + 1 + 1))) qs (.slice (some ⟨gd, 0, none⟩) (T + 1) cd) ds wr)) (fun wr => ((wr.cell? ⟨gq, i, none⟩).map (fun v => (intOf v).toNat)).getD 0)
        case atStart => exact HI2
        case round =>
          clear HI2
          obtain ⟨p2, q2, hTM, hWp2, hpl2, hq2, hrl2, hrq2, hnd2, hb2⟩ := hrel.out
          have hcq := hrq2.cell (k := i) (by omega)
          have hfq := hrq2.free i
          have e1 : (qs.set i q2).getD i 0 = q2 := by have := hrq2.1; simp at this; simp [List.getD, show i < qs.length by omega]
          rw [e1] at hcq
          have HBK := Lib.hid (back_calls (ls.take i) p2 (ls.drop (i + (T + 1 + 1))) ds (.slice (some ⟨gd, 0, none⟩) (T + 1) cd) Bl w.heap.size gl (la + 1) (cl - i) wr hrl2 hWp2 hnd2 (by simpa [Value.ownBlock] using hgdl) (by rw [hpl2, HLD.out]) (by omega))
          rw [HLD.out, HLTI.out] at HBK
          have HTM := Lib.hid hTM
          have HP2 := Lib.hid hpl2
          have HRQ := Lib.hid hrq2
          have HND := Lib.hid hnd2
          have HB := Lib.hid hb2
          have hcq0 := Lib.hid hcq
          clear hTM hWp2 hpl2 hrl2 hrq2 hnd2 hb2 hcq hfq hrel e1
          go_wp2_with fail
          refine (HBK.out).mono ?_
          rintro e w8 ⟨p3, c, rfl, hc2, hpl, hWp3, hK3, hrl8, hg8⟩
          have hrq8 := HRQ.out.kept hg8 (by simpa using Ne.symm hglq)
          have HND8 := Lib.hid (HND.out.kept hg8 (by simpa [Value.ownBlock] using hgdl))
          have HB8 := Lib.hid (HB.out.grown hg8 HB.out.size (fun k hk => by simp at hk; have := hrl8.lt.1; omega))
          have HRL8 := Lib.hid hrl8
          have HWp3 := Lib.hid hWp3
          have HPL3 := Lib.hid (hpl.trans HP2.out)
          have hK3' := hK3
          rw [HP2.out, ← HDV.out] at hK3'
          have HK3 := Lib.hid hK3'
          clear hg8 hrl8 hWp3 hpl hK3 hK3'
          by_cases hc0 : c = 0
          · subst hc0
            have hlt3 : Dg.dv B64 p3 < B64 ^ (T + 1 + 1) := by have := Dg.dv_lt p3 HWp3.out; rw [HPL3.out] at this; exact this
            obtain ⟨hqpos, hTM3⟩ := Dg.TooMuch.again HTM.out (v' := Dg.dv B64 p3) (by have := HK3.out; rw [Nat.mul_zero, Nat.add_zero] at this; exact this) hlt3
            have hcq := hrq8.cell (k := i) (by omega)
            have hfq := hrq8.free i
            have e1 : (qs.set i q2).getD i 0 = q2 := by have := hrq8.1; simp at this; simp [List.getD, show i < qs.length by omega]
            rw [e1] at hcq
            have hRQ9 := hrq8.set i (q2 - 1)
            rw [List.set_set] at hRQ9
            have hgs9 := grownBy_setCell w8 gq i (.int .u64 ((q2 - 1 : Nat) : Int))
            have HI3 := Lib.hid (show DivIn w Bl D (T + 1) (Dg.dv B64 ((ls.drop i).take (T + 1 + 1))) la nq gl gq i (ls.take i) (ls.drop (i + (T + 1 + 1))) qs (.slice (some ⟨gd, 0, none⟩) (T + 1) cd) ds (w8.setCell ⟨gq, i, none⟩ (.int .u64 ((q2 - 1 : Nat) : Int))) from
              ⟨p3, q2 - 1, hTM3, HWp3.out, HPL3.out, by omega, HRL8.out.kept hgs9 (by simpa using hglq), hRQ9, HND8.out.kept hgs9 (by simpa [Value.ownBlock] using hgdq), HB8.out.setCell hrq8.lt.1 _⟩)
            have hg1I : (q2 : Int) - 1 = ((q2 - 1 : Nat) : Int) := by omega
            have hgb : (q2 : Int) ≤ 18446744073709551615 := by have e : B64 = 18446744073709551616 := rfl; omega
            have hgl0 : (0 : Int) < (q2 : Int) := by omega
            have hdec : q2 - 1 < q2 := by omega
            have hcell9 := hRQ9
            have HC9 := Lib.hid (hRQ9.cell (k := i) (by omega))
            have e2 : (qs.set i (q2 - 1)).getD i 0 = q2 - 1 := by have := hRQ9.1; simp at this; simp [List.getD, show i < qs.length by omega]
            rw [e2] at HC9
            clear hlt3 hTM3 hRQ9 hgs9 hrq8 HRL8 HND8 HB8 e1 e2 hcell9
            generalize q2 - 1 = q3 at *
            go_wp2_with fail
            go_roundw
            case rel => exact HI3
            case measure =>
              have h9 := HC9.out
              have h8 := hcq0.out
              simp only [h9, h8, Option.map_some, Option.getD_some, intOf]
              omega
          · obtain rfl : c = 1 := by omega
            obtain ⟨hv, hlt⟩ := Dg.TooMuch.enough HTM.out (v' := Dg.dv B64 p3) (by have := HK3.out; rw [Nat.mul_one] at this; exact this)
            have HV := Lib.hid hv
            have HLT := Lib.hid hlt
            have HRQ8 := Lib.hid hrq8
            have HQ2 := Lib.hid hq2
            clear hv hlt hrq8 hq2
            go_wp2_with fail
            refine ⟨⟨i, by omega, rfl, ?_⟩, by simp only [intOf]; omega⟩
            exact Lib.hid ⟨_, _, HD.out.next (by decide) HDL.out hil HPL3.out HWp3.out HQ2.out HV.out HLT.out, HRL8.out, HRQ8.out, HND8.out, HB8.out⟩
    · obtain rfl : k = 0 := by omega
      obtain ⟨ls, qs, hD, hrl, hrq, hnd, hb⟩ := hrel.out
      obtain ⟨e1, e2⟩ := hD.end'
      have HNL := Lib.hid (hrl.nv hD.2.1 hcl)
      have HNQ2 := Lib.hid (hrq.nv hD.2.2.2.1 (Nat.le_refl nq))
      have hl1 := hrl.1
      have hl2 := hrq.1
      have HE1 := Lib.hid (e1.trans hfin.out.1)
      have HE2 : Hid (Dg.dv B64 ls / 2 ^ s = m % n) := Lib.hid (by rw [e2]; exact hfin.out.2)
      have HB := Lib.hid hb
      have SR2 := Lib.hid (SR.out (.slice (some ⟨gl, 0, none⟩) (la + 1) cl) ls (s : Int) rfl wr HNL.out (by omega))
      have TR := Lib.hid (fun wx (hx : Nv wx (.slice (some ⟨gq, 0, none⟩) nq nq) qs) => trim_calls _ qs wx hx (by omega))
      rw [HE1.out] at TR
      rw [HE2.out] at SR2
      clear hD hrl hrq hnd hb e1 e2 hrel
      go_wp2_with fail
      refine (SR2.out).mono ?_
      rintro e w7 ⟨vr, rfl, hnr, hb7⟩
      have HQ7 := Lib.hid (HNQ2.out.below hb7)
      have HB7 := Lib.hid (HB.out.trans (hb7.mono HB.out.size))
      have HR7 := Lib.hid (hnr.mono HB.out.size)
      clear hnr hb7
      go_wp2_with fail
      refine (TR.out _ HQ7.out).mono ?_
      rintro e w8 ⟨vq, rfl, hnq8, hb8⟩
      have HR8 := Lib.hid (HR7.out.below hb8)
      have HB8 := Lib.hid (HB7.out.trans (hb8.mono HB7.out.size))
      have HQ8 := Lib.hid (hnq8.mono HB7.out.size)
      clear hnq8 hb8
      go_wp2_with fail
      go_ret3
      exact ⟨HB8.out, (fun h => by have := HN0.out; omega), fun _ => ⟨vq, vr, rfl, HQ8.out, HR8.out⟩⟩

theorem div_calls (v1 v2 : Value) (xs ys : List Nat) (w : World) (h1 : Nv w v1 xs) (h2 : Nv w v2 ys) (l1 : xs.length ≤ 549755813888) (l2 : ys.length ≤ 549755813888) :
    Calls Tryz.prog 46 #[v1, v2] w (RetDiv (Dg.dv B64 xs) (Dg.dv B64 ys) w) := by
  by_cases h0 : Dg.dv B64 ys = 0
  · exact div0_calls v1 v2 xs ys w h1 h2 (by omega) (by omega) h0
  · rcases Nat.lt_or_ge (Dg.dv B64 xs) (Dg.dv B64 ys) with hlt | hle
    · exact div1_calls v1 v2 xs ys w h1 h2 (by omega) (by omega) hlt
    · obtain ⟨k, hk⟩ : ∃ k, (Dg.db B64 (Dg.dv B64 ys)).length = k := ⟨_, rfl⟩
      rcases k with _ | _ | k
      · exact absurd ((Dg.db_nil_iff (by decide)).1 (List.eq_nil_of_length_eq_zero hk)) h0
      · exact div2_calls v1 v2 xs ys w h1 h2 (by omega) (by omega) hle hk
      · exact div3_calls v1 v2 xs ys w h1 h2 l1 l2 hle (k + 1) (by omega) hk

end Go.Proofs.YthlpfhenaakljaaGreatDoor

namespace Go.Proofs.YthlpfhenaakljaaGreatDoor
open Go.RowKit

/-- The number that a slice of words reads as in a world. -/
def valOf (v : Value) (w : World) : Nat :=
  match v with
  | .slice (some a) n _ => Dg.dv B64 ((List.range n).map fun j => match w.cell? ⟨a.block, a.off + j, none⟩ with | some (.int _ k) => k.toNat | _ => 0)
  | _ => 0

theorem Nv.valOf {w : World} {v : Value} {xs : List Nat} (h : Nv w v xs) : valOf v w = Dg.dv B64 xs := by
  obtain ⟨_, a, cap, rfl, _, hr⟩ := h
  rcases hr with rfl | ⟨b, off, rfl, _, hc⟩
  · cases a <;> simp [YthlpfhenaakljaaGreatDoor.valOf, Dg.dv]
  · simp only [YthlpfhenaakljaaGreatDoor.valOf]
    congr 1
    apply List.ext_getElem
    · simp
    · intro j h1 h2
      simp only [List.getElem_map, List.getElem_range]
      rw [hc j h2]
      simp [List.getD, h2]

theorem db_len_mono {m n : Nat} (h : m ≤ n) : (Dg.db B64 m).length ≤ (Dg.db B64 n).length :=
  Dg.db_length (by decide) (Nat.lt_of_le_of_lt h (Dg.lt_pow_length (by decide) n))

/-- What Gcd keeps. -/
def GcdSt (w0 : World) (m n x y : Nat) (va vb : Value) (wr : World) : Prop :=
  Nat.gcd x y = Nat.gcd m n ∧ (Dg.db B64 x).length ≤ 549755813888 ∧ (Dg.db B64 y).length ≤ 549755813888 ∧ No w0.heap.size wr va (Dg.db B64 x) ∧ No w0.heap.size wr vb (Dg.db B64 y) ∧ Below w0.heap.size w0 wr

/-- What holds at every jump of Gcd: over the whole frame. -/
def GcdJ (w0 : World) (m n : Nat) (a : Act) (wr : World) : Prop :=
  ∃ (va vb u2 u3 u5 u6 u7 u8 u9 u10 u11 u12 u13 u14 u15 u16 u17 u18 u19 u20 u21 u22 u23 u24 : Value),
    a = { tmps := #[va, vb, u2, u3, .slice none 0 0, u5, u6, u7, u8, u9, u10, u11, u12, u13, u14, u15, u16, u17, u18, u19, u20, u21, u22, u23, u24], defers := [] } ∧ ∃ x y, GcdSt w0 m n x y va vb wr

set_option maxHeartbeats 1600000 in
theorem gcd_calls (v1 v2 : Value) (xs ys : List Nat) (w : World) (h1 : Nv w v1 xs) (h2 : Nv w v2 ys) (l1 : xs.length ≤ 549755813888) (l2 : ys.length ≤ 549755813888) :
    Calls Tryz.prog 45 #[v1, v2] w (RetN (Dg.db B64 (Nat.gcd (Dg.dv B64 xs) (Dg.dv B64 ys))) w) := by
  have T1 := Lib.hid (trim_calls v1 xs w h1 (by omega))
  have T2 := Lib.hid (fun w1 (hb : Below w.heap.size w w1) => trim_calls v2 ys w1 (h2.below hb) (by omega))
  have k1 := Lib.hid (db_len_le h1.1 l1)
  have k2 := Lib.hid (db_len_le h2.1 l2)
  generalize Dg.dv B64 xs = m at *
  generalize Dg.dv B64 ys = n at *
  clear h1 h2 l1 l2
  go_enter Tryz.func45, Tryz.ntmps45
  go_wp2_with fail
  refine wp_scope_jumps 0 (GcdJ w m n) (fun a' wr => valOf (a'.tmps.getD 1 undef) wr) rfl ?_ ?_
  · go_wp2_with fail
    refine (T1.out).mono ?_
    rintro e w1 ⟨v1', rfl, hn1, hb1⟩
    go_wp2_with fail
    refine (T2.out _ hb1).mono ?_
    rintro e w2 ⟨v2', rfl, hn2, hb2⟩
    have HB2 := Lib.hid (hb1.trans (hb2.mono hb1.size))
    have HI := Lib.hid (show GcdSt w m n m n v1' v2' w2 from ⟨rfl, k1.out, k2.out, hn1.below hb2, hn2.mono hb1.size, HB2.out⟩)
    clear hn1 hn2 hb1 hb2 T1 T2 HB2
    by_cases hy : n = 0
    · obtain ⟨hg, lx, ly, hx, hyy, hb⟩ := HI.out
      obtain ⟨b1, c1, rfl⟩ := hyy.slice
      have hl0 : (Dg.db B64 n).length = 0 := by rw [hy]; rfl
      rw [hl0]
      have HX := Lib.hid hx
      have HB := Lib.hid hb
      have HG := Lib.hid hg
      clear hg lx ly hx hyy hb HI hl0
      go_wp2_with fail
      go_step3
      go_wp2_with fail
      simp only [Exit.jump]
      go_ret
      refine ⟨v1', rfl, ?_, HB.out⟩
      rw [hy, Nat.gcd_zero_right]
      exact HX.out
    · obtain ⟨hg, lx, ly, hx, hyy, hb⟩ := HI.out
      have hvy := hyy.nv.valOf
      rw [Dg.dv_db (by decide)] at hvy
      have HV := Lib.hid hvy
      have HC := Lib.hid (div_calls v1' v2' _ _ w2 hx.nv hyy.nv lx ly)
      rw [Dg.dv_db (by decide), Dg.dv_db (by decide)] at HC
      obtain ⟨b1, c1, rfl⟩ := hyy.slice
      have hpos : 0 < (Dg.db B64 n).length := by
        rcases Nat.eq_zero_or_pos (Dg.db B64 n).length with h | h
        · exact absurd ((Dg.db_nil_iff (by decide)).1 (List.eq_nil_of_length_eq_zero h)) hy
        · exact h
      have HY := Lib.hid hyy
      have HB := Lib.hid hb
      have HG := Lib.hid (show Nat.gcd n (m % n) = Nat.gcd m n by rw [← hg, Nat.gcd_comm m n, Nat.gcd_rec n m, Nat.gcd_comm])
      have HL := Lib.hid (show (Dg.db B64 n).length ≤ 549755813888 ∧ (Dg.db B64 (m % n)).length ≤ 549755813888 from ⟨ly, Nat.le_trans (db_len_mono (Nat.mod_le _ _)) lx⟩)
      clear hg hx hyy hb HI hvy lx ly
      generalize hle : (Dg.db B64 n).length = L at *
      have HLE := Lib.hid hle
      clear hle
      have hposI : (0 : Int) < (L : Int) := by omega
      go_wp2_with fail
      go_step3
      go_wp2_with fail
      refine (HC.out).mono ?_
      rintro e w3 ⟨hb3, _, h⟩
      obtain ⟨q, r, rfl, hq, hr⟩ := h hy
      have HY3 := Lib.hid (HY.out.below hb3)
      have HR3 := Lib.hid (hr.mono HB.out.size)
      have HB3 := Lib.hid (HB.out.trans (hb3.mono HB.out.size))
      clear hq hr h hb3 hpos hposI
      go_wp2_with fail
      go_step3
      have HJ : GcdSt w m n n (m % n) (.slice b1 L c1) r w3 := ⟨HG.out, by rw [HLE.out]; exact HL.out.1, HL.out.2, HY3.out, HR3.out, HB3.out⟩
      exact ⟨rfl, _, _, _, _, _, _, _, _, _, _, _, _, _, _, _, _, _, _, _, _, _, _, _, _, rfl, _, _, HJ⟩
  · rintro a' wr ⟨va, vb, u2, u3, u5, u6, u7, u8, u9, u10, u11, u12, u13, u14, u15, u16, u17, u18, u19, u20, u21, u22, u23, u24, rfl, x, y, hst⟩
    have HI := Lib.hid hst
    clear hst T1 T2 k1 k2
    by_cases hy : y = 0
    · obtain ⟨hg, lx, ly, hx, hyy, hb⟩ := HI.out
      obtain ⟨b1, c1, rfl⟩ := hyy.slice
      have hl0 : (Dg.db B64 y).length = 0 := by rw [hy]; rfl
      rw [hl0]
      have HX := Lib.hid hx
      have HB := Lib.hid hb
      have HG := Lib.hid hg
      clear hg lx ly hx hyy hb HI hl0
      go_wp2_with fail


      simp only [Exit.jump]
      go_ret
      refine ⟨va, rfl, ?_, HB.out⟩
      rw [← HG.out, hy, Nat.gcd_zero_right]
      exact HX.out
    · obtain ⟨hg, lx, ly, hx, hyy, hb⟩ := HI.out
      have hvy := hyy.nv.valOf
      rw [Dg.dv_db (by decide)] at hvy
      have HV := Lib.hid hvy
      have HC := Lib.hid (div_calls va vb _ _ wr hx.nv hyy.nv lx ly)
      rw [Dg.dv_db (by decide), Dg.dv_db (by decide)] at HC
      obtain ⟨b1, c1, rfl⟩ := hyy.slice
      have hpos : 0 < (Dg.db B64 y).length := by
        rcases Nat.eq_zero_or_pos (Dg.db B64 y).length with h | h
        · exact absurd ((Dg.db_nil_iff (by decide)).1 (List.eq_nil_of_length_eq_zero h)) hy
        · exact h
      have HY := Lib.hid hyy
      have HB := Lib.hid hb
      have HG := Lib.hid (show Nat.gcd y (x % y) = Nat.gcd m n by rw [← hg, Nat.gcd_comm x y, Nat.gcd_rec y x, Nat.gcd_comm])
      have HL := Lib.hid (show (Dg.db B64 y).length ≤ 549755813888 ∧ (Dg.db B64 (x % y)).length ≤ 549755813888 from ⟨ly, Nat.le_trans (db_len_mono (Nat.mod_le _ _)) lx⟩)
      clear hg hx hyy hb HI hvy lx ly
      generalize hle : (Dg.db B64 y).length = L at *
      have HLE := Lib.hid hle
      clear hle
      have hposI : (0 : Int) < (L : Int) := by omega
      go_wp2_with fail


      refine (HC.out).mono ?_
      rintro e w3 ⟨hb3, _, h⟩
      obtain ⟨q, r, rfl, hq, hr⟩ := h hy
      have HY3 := Lib.hid (HY.out.below hb3)
      have HR3 := Lib.hid (hr.mono HB.out.size)
      have HB3 := Lib.hid (HB.out.trans (hb3.mono HB.out.size))
      clear hq hr h hb3 hpos hposI
      go_wp2_with fail
      go_step3
      have HJ : GcdSt w m n y (x % y) (.slice b1 L c1) r w3 := ⟨HG.out, by rw [HLE.out]; exact HL.out.1, HL.out.2, HY3.out, HR3.out, HB3.out⟩
      refine ⟨rfl, ⟨_, _, _, _, _, _, _, _, _, _, _, _, _, _, _, _, _, _, _, _, _, _, _, _, rfl, _, _, HJ⟩, ?_⟩
      have hv3 := HR3.out.nv.valOf
      rw [Dg.dv_db (by decide)] at hv3
      have hv0 := HV.out
      show valOf r w3 < valOf (.slice b1 L c1) wr
      rw [hv3, hv0]
      exact Nat.mod_lt _ (by omega)

end Go.Proofs.YthlpfhenaakljaaGreatDoor

namespace Go.Proofs.YthlpfhenaakljaaGreatDoor
open Go.RowKit

/-- A natural with a sign, as a whole number. -/
def sgn (neg : Bool) (n : Nat) : Int := if neg then -(n : Int) else n

theorem sgn_abs (b : Bool) (n : Nat) : (sgn b n).natAbs = n := by unfold sgn; split <;> simp
theorem sgn_neg (b : Bool) (n : Nat) : decide (sgn b n < 0) = (b && decide (n ≠ 0)) := by
  unfold sgn
  cases b
  · simp
  · by_cases h : n = 0
    · simp [h]
    · have : -(n : Int) < 0 := by omega
      simp only [if_true, this, h, decide_true, ne_eq, not_false_eq_true, Bool.and_self]
theorem sgn_of (z : Int) : sgn (decide (z < 0)) z.natAbs = z := by
  unfold sgn; split <;> rename_i h <;> simp at h <;> omega

/-- A whole number of the call's own is told. -/
def RetI (z : Int) (w : World) (e : Ending) (w' : World) : Prop :=
  ∃ v, e = .returned (.agg #[.bool (decide (z < 0)), v]) ∧ No w.heap.size w' v (Dg.db B64 z.natAbs) ∧ Below w.heap.size w w'

/-- A block of the call's own that no callee has turned. -/
theorem kept_block {w w1 : World} {cs : Array Value} {t : TypeId} (hb : Below (w.alloc (.cells cs t)).heap.size (w.alloc (.cells cs t)) w1) : w1.heap[w.heap.size]? = some (.cells cs t (0, 0)) := by
  rw [hb.block _ (by simp)]; exact heap_alloc_new w _

theorem stored2 {w1 : World} {g : Nat} {a b : Value} {t : TypeId} (h : w1.heap[g]? = some (.cells #[a, b] t (0, 0))) (x y : Value) :
    ((w1.setCell ⟨g, 0, none⟩ x).setCell ⟨g, 1, none⟩ y).heap[g]? = some (.cells #[x, y] t (0, 0)) := by
  rw [heap_setCell_same _ g 1 _ t y (heap_setCell_same _ g 0 _ t x h)]
  simp

/-- Behind the filling of a result's block: what has been made stays, and nothing older is turned. -/
theorem filled2 {w w1 : World} {o : Obj} {v : Value} {xs : List Nat} (hb : Below (w.alloc o).heap.size (w.alloc o) w1) (hn : No (w.alloc o).heap.size w1 v xs) (x y : Value) :
    No w.heap.size ((w1.setCell ⟨w.heap.size, 0, none⟩ x).setCell ⟨w.heap.size, 1, none⟩ y) v xs ∧ Below w.heap.size w ((w1.setCell ⟨w.heap.size, 0, none⟩ x).setCell ⟨w.heap.size, 1, none⟩ y) := by
  have hne : v.ownBlock ≠ some w.heap.size := fun h => by have := (hn.lt _ h).1; simp at this; omega
  have hb' : Below w.heap.size w w1 := ((Below.refl w.heap.size w).alloc (Nat.le_refl _) o).trans (hb.mono (by simp))
  exact ⟨((hn.mono (by simp)).kept (grownBy_setCell _ _ _ _) hne).kept (grownBy_setCell _ _ _ _) hne, (hb'.setCell (Nat.le_refl _) _).setCell (Nat.le_refl _) _⟩

theorem ret_row {fn : Func} {p : Tmp} {ty : TypeId} {post : Ending → World → Prop} (hr : fn.results = #[.cell p ty]) (tmps : Array Value) (w : World) (g : Nat) (t : TypeId) (cs : Array Value) (fr : Nat × Nat)
    (hp : tmps.getD p undef = .pointer (some ⟨g, 0, none⟩)) (hg : w.heap[g]? = some (.cells cs t fr))
    (hu : (Tryz.prog.underlying ty).map (fun d => match d with | .struct _ | .array _ _ => true | _ => false) = some true) (hi : (Tryz.prog.info? ty).map (·.size) = some cs.size)
    (h : post (.returned (.agg cs)) w) : bodyPost Tryz.prog fn post .ret { tmps := tmps, defers := [] } w := by
  cases hd : Tryz.prog.underlying ty with
  | none => rw [hd] at hu; cases hu
  | some d =>
    rw [hd] at hu
    exact bodyPost_ret (results_cell_row hr tmps w g t cs fr d hp hg hd (by revert hu; cases d <;> simp) hi) rfl h

theorem und_Int : (Tryz.prog.underlying 25).map (fun d => match d with | .struct _ | .array _ _ => true | _ => false) = some true := by kernel_rfl
theorem size_Int : (Tryz.prog.info? 25).map (·.size) = some 2 := by kernel_rfl

set_option maxHeartbeats 400000 in
theorem wmake_calls (neg : Bool) (v : Value) (xs : List Nat) (w : World) (hv : Nv w v xs) (hl : xs.length ≤ 1099511627776) :
    Calls Tryz.prog 32 #[.bool neg, v] w (RetI (sgn neg (Dg.dv B64 xs)) w) := by
  have Z := Lib.hid (fun wx (hx : Nv wx v xs) => zero_calls v xs wx hx (by omega))
  have T := Lib.hid (fun wx (hx : Nv wx v xs) => trim_calls v xs wx hx (by omega))
  have HV := Lib.hid (fun o => hv.below ((Below.refl w.heap.size w).alloc (Nat.le_refl _) o))
  have HS := Lib.hid (sgn_neg neg (Dg.dv B64 xs))
  have HA := Lib.hid (sgn_abs neg (Dg.dv B64 xs))
  clear hv
  cases neg
  · go_enter Tryz.func32, Tryz.ntmps32
    go_wp2_with fail
    refine (T.out _ (HV.out _)).mono ?_
    rintro e w1 ⟨v', rfl, hn, hb⟩
    obtain ⟨a1, c1, rfl⟩ := hn.slice
    have hk := kept_block hb
    have HK := Lib.hid hk
    have hf0 := frozen_of_row w1 w.heap.size 0 _ _ hk
    have hf1 := frozen_of_row w1 w.heap.size 1 _ _ hk
    have hc0 := cell_of_row w1 w.heap.size 0 _ _ (0, 0) hk
    have hc1 := cell_of_row w1 w.heap.size 1 _ _ (0, 0) hk
    have HN := Lib.hid hn
    have HB := Lib.hid hb
    clear hk hn hb
    go_wp2_with fail
    refine ret_row rfl _ _ w.heap.size 25 _ (0, 0) rfl (stored2 HK.out _ _) und_Int size_Int ?_
    obtain ⟨f1, f2⟩ := filled2 HB.out HN.out (.bool false) (.slice a1 (Dg.db B64 (Dg.dv B64 xs)).length c1)
    exact ⟨.slice a1 (Dg.db B64 (Dg.dv B64 xs)).length c1, by rw [HS.out]; rfl, by rw [HA.out]; exact f1, f2⟩
  · go_enter Tryz.func32, Tryz.ntmps32
    go_wp2_with fail
    refine (Z.out _ (HV.out _)).mono ?_
    rintro e w1 ⟨rfl, rfl⟩
    go_wp2_with fail
    refine (T.out _ (HV.out _)).mono ?_
    rintro e w1 ⟨v', rfl, hn, hb⟩
    obtain ⟨a1, c1, rfl⟩ := hn.slice
    have hk := kept_block hb
    have HK := Lib.hid hk
    have hf0 := frozen_of_row w1 w.heap.size 0 _ _ hk
    have hf1 := frozen_of_row w1 w.heap.size 1 _ _ hk
    have hc0 := cell_of_row w1 w.heap.size 0 _ _ (0, 0) hk
    have hc1 := cell_of_row w1 w.heap.size 1 _ _ (0, 0) hk
    have HN := Lib.hid hn
    have HB := Lib.hid hb
    clear hk hn hb
    go_wp2_with fail
    refine ret_row rfl _ _ w.heap.size 25 _ (0, 0) rfl (stored2 HK.out _ _) und_Int size_Int ?_
    obtain ⟨f1, f2⟩ := filled2 HB.out HN.out (.bool (!decide (Dg.dv B64 xs = 0))) (.slice a1 (Dg.db B64 (Dg.dv B64 xs)).length c1)
    exact ⟨.slice a1 (Dg.db B64 (Dg.dv B64 xs)).length c1, by rw [HS.out]; simp, by rw [HA.out]; exact f1, f2⟩

end Go.Proofs.YthlpfhenaakljaaGreatDoor

namespace Go.Proofs.YthlpfhenaakljaaGreatDoor
open Go.RowKit

/-- A whole number that came in by value: its sign and its limbs. -/
def Iv (w : World) (v : Value) (b : Bool) (xs : List Nat) : Prop := ∃ m, v = .agg #[.bool b, m] ∧ Nv w m xs ∧ xs.length ≤ 549755813888

theorem block_of {w w1 : World} {o : Obj} {g : Nat} (hb : Below w.heap.size w w1) (h : w.heap[g]? = some o) : w1.heap[g]? = some o := by
  rw [hb.block g (Array.getElem?_eq_some_iff.1 h).1]; exact h

theorem block_of_cell {w w1 : World} {p : Addr} {v : Value} (hb : Below w.heap.size w w1) (h : w.cell? p = some v) : w1.cell? p = some v := by
  rw [hb.cell (block_lt_of_cell h)]; exact h

theorem filled {w w2 : World} {g B : Nat} {v : Value} {xs : List Nat} (hb : Below w.heap.size w w2) (hg : w.heap.size ≤ g) (hn : No B w2 v xs) (hgB : g < B) (x y : Value) :
    No w.heap.size ((w2.setCell ⟨g, 0, none⟩ x).setCell ⟨g, 1, none⟩ y) v xs ∧ Below w.heap.size w ((w2.setCell ⟨g, 0, none⟩ x).setCell ⟨g, 1, none⟩ y) := by
  have hne : v.ownBlock ≠ some g := fun h => by have := (hn.lt _ h).1; omega
  exact ⟨((hn.mono (by omega)).kept (grownBy_setCell _ _ _ _) hne).kept (grownBy_setCell _ _ _ _) hne, (hb.setCell hg _).setCell hg _⟩

theorem heap_lt {w : World} {g : Nat} {o : Obj} (h : w.heap[g]? = some o) : g < w.heap.size := (Array.getElem?_eq_some_iff.1 h).1

theorem three_blocks (w : World) (o1 o2 o3 : Obj) : (((w.alloc o1).alloc o2).alloc o3).heap[w.heap.size]? = some o1 ∧ (((w.alloc o1).alloc o2).alloc o3).heap[w.heap.size + 1]? = some o2 ∧
    (((w.alloc o1).alloc o2).alloc o3).heap[w.heap.size + 1 + 1]? = some o3 ∧ Below w.heap.size w (((w.alloc o1).alloc o2).alloc o3) ∧ w.heap.size + 1 + 1 < (((w.alloc o1).alloc o2).alloc o3).heap.size := by
  refine ⟨?_, ?_, ?_, (((Below.refl _ _).alloc (Nat.le_refl _) _).alloc (by simp) _).alloc (by simp; omega) _, by simp⟩
  · rw [heap_alloc_old _ _ (by simp; omega), heap_alloc_old _ _ (by simp)]; exact heap_alloc_new w o1
  · rw [heap_alloc_old _ _ (by simp)]; have := heap_alloc_new (w.alloc o1) o2; simpa using this
  · have := heap_alloc_new ((w.alloc o1).alloc o2) o3; simpa using this

set_option maxHeartbeats 1600000 in
theorem wmul_int_calls (b1 b2 : Bool) (m1 m2 : Value) (xs ys : List Nat) (w : World) (h1 : Nv w m1 xs) (h2 : Nv w m2 ys) (l1 : xs.length ≤ 274877906944) (l2 : ys.length ≤ 274877906944) :
    Calls Tryz.prog 36 #[.agg #[.bool b1, m1], .agg #[.bool b2, m2]] w (RetI (sgn (b1 != b2) (Dg.dv B64 xs * Dg.dv B64 ys)) w) := by
  obtain ⟨_, a1, c1, rfl, _, _⟩ := id h1
  obtain ⟨_, a2, c2, rfl, _, _⟩ := id h2
  have hlen : (Dg.db B64 (Dg.dv B64 xs * Dg.dv B64 ys)).length ≤ 549755813888 := by
    refine Nat.le_trans (Dg.db_length (k := xs.length + ys.length) (by decide) ?_) (by omega)
    rw [Nat.pow_add]
    exact Nat.mul_lt_mul'' (Dg.dv_lt xs h1.1) (Dg.dv_lt ys h2.1)
  go_enter Tryz.func36, Tryz.ntmps36
  go_wp2_with fail
  obtain ⟨g1, g2, g3, hB0, hsz⟩ := three_blocks w (.cells #[.bool b1, .slice a1 xs.length c1] 25) (.cells #[.bool b2, .slice a2 ys.length c2] 25) (.cells #[.bool false, .slice none 0 0] 25)
  generalize ((w.alloc (.cells #[.bool b1, .slice a1 xs.length c1] 25)).alloc (.cells #[.bool b2, .slice a2 ys.length c2] 25)).alloc (.cells #[.bool false, .slice none 0 0] 25) = W at *
  have HM := Lib.hid (mul_calls _ _ xs ys W.drew ((h1.below hB0).below (Below.refl _ _).drew) ((h2.below hB0).below (Below.refl _ _).drew) (by omega) (by omega))
  have HG := Lib.hid g3
  have HB0 := Lib.hid hB0
  have HS0 := Lib.hid (show w.heap.size ≤ W.heap.size by omega)
  have hc1 : W.cell? ⟨w.heap.size, 0, none⟩ = some (.bool b1) := cell_of_row W _ 0 _ _ (0, 0) g1
  have hc2 : W.cell? ⟨w.heap.size, 1, none⟩ = some (.slice a1 xs.length c1) := cell_of_row W _ 1 _ _ (0, 0) g1
  have hc3 : W.cell? ⟨w.heap.size + 1, 0, none⟩ = some (.bool b2) := cell_of_row W _ 0 _ _ (0, 0) g2
  have hc4 : W.cell? ⟨w.heap.size + 1, 1, none⟩ = some (.slice a2 ys.length c2) := cell_of_row W _ 1 _ _ (0, 0) g2
  clear g1 g2 g3 hB0 hsz h1 h2 l1 l2
  have hge : Hid (w.heap.size ≤ w.heap.size + 1 + 1) := Lib.hid (by omega)
  have hn1 : w.heap.size ≠ w.heap.size + 1 + 1 := by omega
  have hn2 : w.heap.size + 1 ≠ w.heap.size + 1 + 1 := by omega
  have hn1' : w.heap.size + 1 + 1 ≠ w.heap.size := by omega
  have hn2' : w.heap.size + 1 + 1 ≠ w.heap.size + 1 := by omega
  generalize w.heap.size + 1 + 1 = j3 at *
  generalize w.heap.size + 1 = j2 at *
  generalize hj1 : w.heap.size = j1 at *
  have HJ1 := Lib.hid hj1
  clear hj1
  go_region_held3 (fun w' => w'.cell? ⟨j1, 0, none⟩ = some (.bool b1) ∧ w'.cell? ⟨j1, 1, none⟩ = some (.slice a1 xs.length c1) ∧ w'.cell? ⟨j2, 0, none⟩ = some (.bool b2) ∧ w'.cell? ⟨j2, 1, none⟩ = some (.slice a2 ys.length c2)) (go_keep)
    (first
      | (go_at_call 33
         refine HM.out.mono ?_
         rintro e w1 ⟨v, rfl, hno, hb⟩
         obtain ⟨a3, c3, rfl⟩ := hno.slice
         have HN := Lib.hid hno
         have hb1 := Lib.hid ((HB0.out.drew).trans (hb.mono HS0.out))
         have hs1 := Lib.hid (Nat.le_trans HS0.out hb.size)
         have hg1 := Lib.hid (block_of hb HG.out)
         have hcc1 := (block_of_cell hb hc1)
         have hcc2 := (block_of_cell hb hc2)
         have hcc3 := (block_of_cell hb hc3)
         have hcc4 := (block_of_cell hb hc4)
         clear hno hb)
      | (go_at_call 32
         refine (wmake_calls (!(b1 == b2)) _ _ _ HN.out.nv (by omega)).mono ?_
         rintro e w2 ⟨v, rfl, hno, hb⟩
         obtain ⟨a4, c4, rfl⟩ := hno.slice
         have HN2 := Lib.hid hno
         have hb2 := Lib.hid (hb1.out.trans (hb.mono hs1.out))
         have hgg := block_of hb hg1.out
         have hg2 := Lib.hid hgg
         have hf0 := frozen_of_row _ _ 0 _ _ hgg
         have hf1 := frozen_of_row _ _ 1 _ _ hgg
         have hr0 := cell_of_row _ _ 0 _ _ (0, 0) hgg
         have hr1 := cell_of_row _ _ 1 _ _ (0, 0) hgg
         have hcd1 := (block_of_cell hb hcc1)
         have hcd2 := (block_of_cell hb hcc2)
         have hcd3 := (block_of_cell hb hcc3)
         have hcd4 := (block_of_cell hb hcc4)
         clear hno hb hgg))
  have HG2 := hg2.out
  go_wp2_with fail
  refine ret_row rfl _ _ j3 25 _ (0, 0) rfl (stored2 HG2 _ _) und_Int size_Int ?_
  have hj := HJ1.out
  subst hj
  obtain ⟨f1, f2⟩ := filled hb2.out hge.out HN2.out (heap_lt hg1.out) (.bool (decide (sgn (!b1 == b2) (Dg.dv B64 (Dg.db B64 (Dg.dv B64 xs * Dg.dv B64 ys))) < 0)))
    (.slice a4 (Dg.db B64 (sgn (!b1 == b2) (Dg.dv B64 (Dg.db B64 (Dg.dv B64 xs * Dg.dv B64 ys)))).natAbs).length c4)
  have e : sgn (b1 != b2) (Dg.dv B64 xs * Dg.dv B64 ys) = sgn (!b1 == b2) (Dg.dv B64 (Dg.db B64 (Dg.dv B64 xs * Dg.dv B64 ys))) := by rw [Dg.dv_db (by decide)]; rfl
  rw [e]
  exact ⟨_, rfl, f1, f2⟩

theorem two_blocks (w : World) (o1 o2 : Obj) : ((w.alloc o1).alloc o2).heap[w.heap.size]? = some o1 ∧ ((w.alloc o1).alloc o2).heap[w.heap.size + 1]? = some o2 ∧
    Below w.heap.size w ((w.alloc o1).alloc o2) ∧ w.heap.size + 1 < ((w.alloc o1).alloc o2).heap.size := by
  refine ⟨?_, ?_, ((Below.refl _ _).alloc (Nat.le_refl _) _).alloc (by simp) _, by simp⟩
  · rw [heap_alloc_old _ _ (by simp)]; exact heap_alloc_new w o1
  · have := heap_alloc_new (w.alloc o1) o2; simpa using this

theorem one_block (w : World) (o1 : Obj) : (w.alloc o1).heap[w.heap.size]? = some o1 ∧ Below w.heap.size w (w.alloc o1) ∧ w.heap.size < (w.alloc o1).heap.size :=
  ⟨heap_alloc_new w o1, (Below.refl _ _).alloc (Nat.le_refl _) _, by simp⟩

set_option maxHeartbeats 1600000 in
theorem wneg_calls (b1 : Bool) (m1 : Value) (xs : List Nat) (w : World) (h1 : Nv w m1 xs) (l1 : xs.length ≤ 549755813888) :
    Calls Tryz.prog 37 #[.agg #[.bool b1, m1]] w (RetI (sgn (!b1) (Dg.dv B64 xs)) w) := by
  obtain ⟨_, a1, c1, rfl, _, _⟩ := id h1
  go_enter Tryz.func37, Tryz.ntmps37
  go_upto_region 1 with fail
  obtain ⟨g1, g2, hB0, hsz⟩ := two_blocks w (.cells #[.bool b1, .slice a1 xs.length c1] 25) (.cells #[.bool false, .slice none 0 0] 25)
  generalize (w.alloc (.cells #[.bool b1, .slice a1 xs.length c1] 25)).alloc (.cells #[.bool false, .slice none 0 0] 25) = W at *
  have HM := Lib.hid (wmake_calls (!b1) _ xs W (h1.below hB0) (by omega))
  have HG := Lib.hid g2
  have HB0 := Lib.hid hB0
  have HS0 := Lib.hid (show w.heap.size ≤ W.heap.size by omega)
  have hc1 : W.cell? ⟨w.heap.size, 0, none⟩ = some (.bool b1) := cell_of_row W _ 0 _ _ (0, 0) g1
  have hc2 : W.cell? ⟨w.heap.size, 1, none⟩ = some (.slice a1 xs.length c1) := cell_of_row W _ 1 _ _ (0, 0) g1
  clear g1 g2 hB0 hsz h1 l1
  have hge : Hid (w.heap.size ≤ w.heap.size + 1) := Lib.hid (by omega)
  generalize w.heap.size + 1 = j3 at *
  generalize hj1 : w.heap.size = j1 at *
  have HJ1 := Lib.hid hj1
  clear hj1
  go_wp2_with fail
  refine HM.out.mono ?_
  rintro e w2 ⟨v, rfl, hno, hb⟩
  obtain ⟨a4, c4, rfl⟩ := hno.slice
  have HN2 := Lib.hid hno
  have hb2 := Lib.hid (HB0.out.trans (hb.mono HS0.out))
  have hgg := block_of hb HG.out
  have hg2 := Lib.hid hgg
  have hf0 := frozen_of_row _ _ 0 _ _ hgg
  have hf1 := frozen_of_row _ _ 1 _ _ hgg
  have hr0 := cell_of_row _ _ 0 _ _ (0, 0) hgg
  have hr1 := cell_of_row _ _ 1 _ _ (0, 0) hgg
  clear hno hb hgg hc1 hc2
  generalize hze : sgn (!b1) (Dg.dv B64 xs) = z at *
  go_wp2_with fail
  refine ret_row rfl _ _ j3 25 _ (0, 0) rfl (stored2 hg2.out _ _) und_Int size_Int ?_
  have hj := HJ1.out
  subst hj
  obtain ⟨f1, f2⟩ := filled hb2.out hge.out HN2.out (heap_lt HG.out) (.bool (decide (z < 0))) (.slice a4 (Dg.db B64 z.natAbs).length c4)
  subst hze
  exact ⟨_, rfl, f1, f2⟩

end Go.Proofs.YthlpfhenaakljaaGreatDoor

namespace Go.Proofs.YthlpfhenaakljaaGreatDoor
open Go.RowKit

theorem sign_zero (b : Bool) : (sgn b 0).sign = 0 := by cases b <;> rfl
theorem sign_pos {n : Nat} (h : n ≠ 0) (b : Bool) : (sgn b n).sign = if b then -1 else 1 := by
  cases b
  · simp [sgn]; omega
  · simp [sgn]; omega

set_option maxHeartbeats 400000 in
theorem wsign_calls (b : Bool) (v : Value) (xs : List Nat) (w : World) (hv : Nv w v xs) (hl : xs.length ≤ 549755813888) :
    Calls Tryz.prog 73 #[.agg #[.bool b, v]] w fun e w' => e = .returned (.int .i64 (sgn b (Dg.dv B64 xs)).sign) ∧ Below w.heap.size w w' := by
  obtain ⟨_, a1, c1, rfl, _, _⟩ := id hv
  by_cases h0 : Dg.dv B64 xs = 0
  · have hs : (sgn b (Dg.dv B64 xs)).sign = 0 := by rw [h0, sign_zero]
    rw [hs]
    clear hs
    go_enter Tryz.func73, Tryz.ntmps73
    go_upto_region 1 with fail
    obtain ⟨g1, hB0, hsz⟩ := one_block w (.cells #[.bool b, .slice a1 xs.length c1] 25)
    generalize w.alloc (.cells #[.bool b, .slice a1 xs.length c1] 25) = W at *
    have HZ := Lib.hid (zero_calls _ xs W (hv.below hB0) (by omega))
    have hc1 : W.cell? ⟨w.heap.size, 0, none⟩ = some (.bool b) := cell_of_row W _ 0 _ _ (0, 0) g1
    have hc2 : W.cell? ⟨w.heap.size, 1, none⟩ = some (.slice a1 xs.length c1) := cell_of_row W _ 1 _ _ (0, 0) g1
    have HB0 := Lib.hid hB0
    clear g1 hB0 hsz hv
    rw [decide_eq_true h0] at HZ
    clear h0
    go_wp2_with fail
    refine HZ.out.mono ?_
    rintro e w2 ⟨rfl, rfl⟩
    go_wp2_with fail
    go_ret
    exact ⟨rfl, HB0.out⟩
  · rw [sign_pos h0]
    cases b
    · go_enter Tryz.func73, Tryz.ntmps73
      go_upto_region 1 with fail
      obtain ⟨g1, hB0, hsz⟩ := one_block w (.cells #[.bool false, .slice a1 xs.length c1] 25)
      generalize w.alloc (.cells #[.bool false, .slice a1 xs.length c1] 25) = W at *
      have HZ := Lib.hid (zero_calls _ xs W (hv.below hB0) (by omega))
      have hc1 : W.cell? ⟨w.heap.size, 0, none⟩ = some (.bool false) := cell_of_row W _ 0 _ _ (0, 0) g1
      have hc2 : W.cell? ⟨w.heap.size, 1, none⟩ = some (.slice a1 xs.length c1) := cell_of_row W _ 1 _ _ (0, 0) g1
      have HB0 := Lib.hid hB0
      clear g1 hB0 hsz hv
      rw [decide_eq_false h0] at HZ
      clear h0
      go_wp2_with fail
      refine HZ.out.mono ?_
      rintro e w2 ⟨rfl, rfl⟩
      go_wp2_with fail
      go_ret
      exact ⟨rfl, HB0.out⟩
    · go_enter Tryz.func73, Tryz.ntmps73
      go_upto_region 1 with fail
      obtain ⟨g1, hB0, hsz⟩ := one_block w (.cells #[.bool true, .slice a1 xs.length c1] 25)
      generalize w.alloc (.cells #[.bool true, .slice a1 xs.length c1] 25) = W at *
      have HZ := Lib.hid (zero_calls _ xs W (hv.below hB0) (by omega))
      have hc1 : W.cell? ⟨w.heap.size, 0, none⟩ = some (.bool true) := cell_of_row W _ 0 _ _ (0, 0) g1
      have hc2 : W.cell? ⟨w.heap.size, 1, none⟩ = some (.slice a1 xs.length c1) := cell_of_row W _ 1 _ _ (0, 0) g1
      have HB0 := Lib.hid hB0
      clear g1 hB0 hsz hv
      rw [decide_eq_false h0] at HZ
      clear h0
      go_wp2_with fail
      refine HZ.out.mono ?_
      rintro e w2 ⟨rfl, rfl⟩
      go_wp2_with fail
      go_ret
      exact ⟨rfl, HB0.out⟩

/-- How two whole numbers stand to each other. -/
def cmpI (x y : Int) : Int := if x < y then -1 else if y < x then 1 else 0

theorem cmpI_of {x y : Int} : cmpI x y = if x.sign < y.sign then -1 else if y.sign < x.sign then 1 else x.sign * Dg.cmpZ x.natAbs y.natAbs := by
  unfold cmpI Dg.cmpZ
  rcases Int.lt_trichotomy x 0 with hx | hx | hx <;> rcases Int.lt_trichotomy y 0 with hy | hy | hy
  all_goals
    first
      | rw [Int.sign_eq_neg_one_of_neg hx]
      | rw [Int.sign_eq_one_of_pos hx]
      | rw [hx, Int.sign_zero]
    first
      | rw [Int.sign_eq_neg_one_of_neg hy]
      | rw [Int.sign_eq_one_of_pos hy]
      | rw [hy, Int.sign_zero]
    repeat' split
    all_goals omega

theorem sign_same {w : World} {b1 b2 : Bool} {m1 m2 : Value} {xs ys : List Nat} (h1 : Nv w m1 xs) (h2 : Nv w m2 ys) (hm : Value.agg #[.bool b1, m1] = .agg #[.bool b2, m2]) :
    (sgn b1 (Dg.dv B64 xs)).sign = (sgn b2 (Dg.dv B64 ys)).sign := by
  simp at hm
  obtain ⟨rfl, rfl⟩ := hm
  rw [← h1.valOf, ← h2.valOf]

/-- What a call of Sign answers, of the one number or the other. -/
def SignRes (B : Nat) (w wx : World) (m V1 V2 : Value) (sx sy : Int) (e : Ending) (w' : World) : Prop :=
  ∃ z : Int, e = .returned (.int .i64 z) ∧ (m = V1 → z = sx) ∧ (m = V2 → z = sy) ∧ Hid (Below B w w') ∧ Hid (∀ p v, wx.cell? p = some v → w'.cell? p = some v)

theorem sign_range (z : Int) : -1 ≤ z.sign ∧ z.sign ≤ 1 := by
  rcases Int.lt_trichotomy z 0 with h | h | h
  · rw [Int.sign_eq_neg_one_of_neg h]; omega
  · rw [h, Int.sign_zero]; omega
  · rw [Int.sign_eq_one_of_pos h]; omega

set_option maxHeartbeats 1600000 in
set_option maxRecDepth 20000 in
theorem wcmp_calls (b1 b2 : Bool) (m1 m2 : Value) (xs ys : List Nat) (w : World) (h1 : Nv w m1 xs) (h2 : Nv w m2 ys) (l1 : xs.length ≤ 549755813888) (l2 : ys.length ≤ 549755813888) :
    Calls Tryz.prog 43 #[.agg #[.bool b1, m1], .agg #[.bool b2, m2]] w fun e w' => e = .returned (.int .i64 (cmpI (sgn b1 (Dg.dv B64 xs)) (sgn b2 (Dg.dv B64 ys)))) ∧ Below w.heap.size w w' := by
  have hspec : cmpI (sgn b1 (Dg.dv B64 xs)) (sgn b2 (Dg.dv B64 ys)) = _ := cmpI_of
  rw [sgn_abs, sgn_abs] at hspec
  have r1 := sign_range (sgn b1 (Dg.dv B64 xs))
  have r2 := sign_range (sgn b2 (Dg.dv B64 ys))
  have r3 := Dg.cmpZ_range (Dg.dv B64 xs) (Dg.dv B64 ys)
  have CM := Lib.hid (fun wx (hb : Below w.heap.size w wx) => cmp_calls m1 m2 xs ys wx (h1.below hb) (h2.below hb) (by omega) (by omega))
  rw [hspec]
  clear hspec
  obtain ⟨_, a1, c1, rfl, _, _⟩ := id h1
  obtain ⟨_, a2, c2, rfl, _, _⟩ := id h2
  generalize hsx : (sgn b1 (Dg.dv B64 xs)).sign = sx at *
  generalize hsy : (sgn b2 (Dg.dv B64 ys)).sign = sy at *
  have DD := Lib.hid (fun wx (hb : Below w.heap.size w wx) m (hm : m = Value.agg #[.bool b1, .slice a1 xs.length c1] ∨ m = .agg #[.bool b2, .slice a2 ys.length c2]) =>
    show Calls Tryz.prog 73 #[m] wx (SignRes w.heap.size w wx m (.agg #[.bool b1, .slice a1 xs.length c1]) (.agg #[.bool b2, .slice a2 ys.length c2]) sx sy) from by
      rcases hm with rfl | rfl
      · refine (wsign_calls b1 _ xs wx (h1.below hb) l1).mono ?_
        rintro e w' ⟨rfl, hb'⟩
        exact ⟨_, rfl, fun _ => hsx, fun hm => by rw [← hsy]; exact sign_same h1 h2 hm, Lib.hid (hb.trans (hb'.mono hb.size)), Lib.hid (fun p v hp => block_of_cell hb' hp)⟩
      · refine (wsign_calls b2 _ ys wx (h2.below hb) l2).mono ?_
        rintro e w' ⟨rfl, hb'⟩
        exact ⟨_, rfl, fun hm => by rw [← hsx]; exact (sign_same h1 h2 hm.symm).symm, fun _ => hsy, Lib.hid (hb.trans (hb'.mono hb.size)), Lib.hid (fun p v hp => block_of_cell hb' hp)⟩)
  clear hsx hsy h1 h2
  generalize Dg.cmpZ (Dg.dv B64 xs) (Dg.dv B64 ys) = cz at *
  have hw : IntKind.i64.wrap (sx * cz) = sx * cz := by
    have hx : sx = -1 ∨ sx = 0 ∨ sx = 1 := by omega
    rw [IntKind.wrap_i64]
    rcases hx with rfl | rfl | rfl <;> omega
  clear r1 r2 r3 l1 l2
  go_enter Tryz.func43, Tryz.ntmps43
  go_upto_region 1 with fail
  obtain ⟨g1, g2, hB0, hsz⟩ := two_blocks w (.cells #[.bool b1, .slice a1 xs.length c1] 25) (.cells #[.bool b2, .slice a2 ys.length c2] 25)
  generalize (w.alloc (.cells #[.bool b1, .slice a1 xs.length c1] 25)).alloc (.cells #[.bool b2, .slice a2 ys.length c2] 25) = W at *
  have hc1 : W.cell? ⟨w.heap.size, 0, none⟩ = some (.bool b1) := cell_of_row W _ 0 _ _ (0, 0) g1
  have hc2 : W.cell? ⟨w.heap.size, 1, none⟩ = some (.slice a1 xs.length c1) := cell_of_row W _ 1 _ _ (0, 0) g1
  have hc3 : W.cell? ⟨w.heap.size + 1, 0, none⟩ = some (.bool b2) := cell_of_row W _ 0 _ _ (0, 0) g2
  have hc4 : W.cell? ⟨w.heap.size + 1, 1, none⟩ = some (.slice a2 ys.length c2) := cell_of_row W _ 1 _ _ (0, 0) g2
  have HB0 := Lib.hid hB0.drew
  have hd1 : W.drew.cell? ⟨w.heap.size, 0, none⟩ = some (.bool b1) := hc1
  have hd2 : W.drew.cell? ⟨w.heap.size, 1, none⟩ = some (.slice a1 xs.length c1) := hc2
  have hd3 : W.drew.cell? ⟨w.heap.size + 1, 0, none⟩ = some (.bool b2) := hc3
  have hd4 : W.drew.cell? ⟨w.heap.size + 1, 1, none⟩ = some (.slice a2 ys.length c2) := hc4
  clear g1 g2 hB0 hsz
  generalize hj2 : w.heap.size + 1 = j2 at *
  have HJ2 := Lib.hid hj2
  clear hj2
  generalize hj1 : w.heap.size = j1 at *
  have HJ1 := Lib.hid hj1
  clear hj1
  go_region_held3 (fun w' => w'.cell? ⟨j1, 0, none⟩ = some (.bool b1) ∧ w'.cell? ⟨j1, 1, none⟩ = some (.slice a1 xs.length c1) ∧ w'.cell? ⟨j2, 0, none⟩ = some (.bool b2) ∧ w'.cell? ⟨j2, 1, none⟩ = some (.slice a2 ys.length c2)) (go_keep)
    (first
      | (go_at_call 73
         refine Calls.mono (DD.out _ HB0.out _ ?_) ?_
         · first | exact .inl rfl | exact .inr rfl
         rintro e w1 ⟨z, rfl, hz1, hz2, HB0, hk⟩
         first | (obtain rfl := (hz1 rfl).symm) | (obtain rfl := (hz2 rfl).symm)
         have hd1 := hk.out _ _ hd1
         have hd2 := hk.out _ _ hd2
         have hd3 := hk.out _ _ hd3
         have hd4 := hk.out _ _ hd4
         clear hk hz1 hz2))
  all_goals
    have HBw := Lib.hid (show Below w.heap.size w w1 by rw [HJ1.out]; exact HB0.out)
    by_cases h1 : sx < sy
    · go_wp2_with fail
      go_ret
      exact ⟨ret_int' (by simp), HBw.out⟩
    · by_cases h2 : sy < sx
      · go_wp2_with fail
        go_ret
        exact ⟨ret_int' (by simp), HBw.out⟩
      · have HCM := Lib.hid (CM.out _ HB0.out)
        go_wp2_with fail
        refine HCM.out.mono ?_
        rintro e w3 ⟨rfl, rfl⟩
        go_wp2_with fail
        go_ret
        exact ⟨ret_int' (by simp), HBw.out⟩

end Go.Proofs.YthlpfhenaakljaaGreatDoor

namespace Go.Proofs.YthlpfhenaakljaaGreatDoor
open Go.RowKit

theorem db_len_one {n : Nat} (h : n < B64) : (Dg.db B64 n).length ≤ 1 := Dg.db_length (by decide) (by simpa using h)

set_option maxHeartbeats 800000 in
theorem wof_calls (n : Int) (w : World) (h1 : -9223372036854775808 ≤ n) (h2 : n ≤ 9223372036854775807) :
    Calls Tryz.prog 48 #[.int .i64 n] w (RetI n w) := by
  obtain ⟨k, hk⟩ : ∃ k, n.natAbs = k := ⟨_, rfl⟩
  have hkb : k < B64 := by have e : B64 = 18446744073709551616 := rfl; omega
  have hl := db_len_one hkb
  have OC := Lib.hid (fun wx => of_calls k wx hkb)
  have MK := Lib.hid (fun neg v wx (hv : Nv wx v (Dg.db B64 k)) => wmake_calls neg v _ wx hv (by omega))
  rw [Dg.dv_db (by decide)] at MK
  have KB := Lib.hid hkb
  by_cases hn : n < 0
  · have hz : sgn true k = n := by simp [sgn]; omega
    obtain ⟨m, hm⟩ : ∃ m : Nat, (m : Int) = n + 18446744073709551616 := ⟨(n + 18446744073709551616).toNat, by omega⟩
    have hc1 : IntKind.u64.wrap n = (m : Int) := wrap_u64_of (by omega)
    have hc2 : IntKind.u64.wrap (-(m : Int)) = (k : Int) := wrap_u64_of (by omega)
    clear hm
    have MK2 := Lib.hid (fun v wx hv => MK.out true v wx hv)
    rw [hz] at MK2
    clear hz hk hl MK h1 h2 hkb KB
    go_enter Tryz.func48, Tryz.ntmps48
    go_upto_region 1 with fail
    obtain ⟨g1, hB0, hsz⟩ := one_block w (.cells #[.bool false, .slice none 0 0] 25)
    generalize w.alloc (.cells #[.bool false, .slice none 0 0] 25) = W at *
    have HG := Lib.hid g1
    have HB0 := Lib.hid hB0
    have HS0 := Lib.hid (Nat.le_of_lt hsz)
    clear g1 hB0 hsz
    generalize hj : w.heap.size = j3 at *
    have HJ := Lib.hid hj
    clear hj
    go_wp2_with fail
    refine (OC.out _).mono ?_
    rintro e w1 ⟨v, rfl, hno, hb⟩
    have HN := Lib.hid hno
    have HB1 := Lib.hid (HB0.out.trans (hb.mono HS0.out))
    have HG1 := Lib.hid (block_of hb HG.out)
    have HS1 := Lib.hid (Nat.le_trans HS0.out hb.size)
    clear hno hb
    go_wp2_with fail
    refine (MK2.out _ _ HN.out.nv).mono ?_
    rintro e w2 ⟨v, rfl, hno, hb⟩
    obtain ⟨a4, c4, rfl⟩ := hno.slice
    have HN2 := Lib.hid hno
    have hb2 := Lib.hid (HB1.out.trans (hb.mono HS1.out))
    have hgg := block_of hb HG1.out
    have hg2 := Lib.hid hgg
    have hf0 := frozen_of_row _ _ 0 _ _ hgg
    have hf1 := frozen_of_row _ _ 1 _ _ hgg
    have hr0 := cell_of_row _ _ 0 _ _ (0, 0) hgg
    have hr1 := cell_of_row _ _ 1 _ _ (0, 0) hgg
    clear hno hb hgg
    generalize hze : decide (n < 0) = bb at *
    have HZE := Lib.hid hze
    clear hze
    go_wp2_with fail
    refine ret_row rfl _ _ j3 25 _ (0, 0) rfl (stored2 hg2.out _ _) und_Int size_Int ?_
    have hj := HJ.out
    subst hj
    obtain ⟨f1, f2⟩ := filled hb2.out (Nat.le_refl _) HN2.out (heap_lt HG1.out) (.bool bb) (.slice a4 (Dg.db B64 n.natAbs).length c4)
    exact ⟨.slice a4 (Dg.db B64 n.natAbs).length c4, by rw [HZE.out], f1, f2⟩
  · have hz : sgn false k = n := by simp [sgn]; omega
    have hc1 : IntKind.u64.wrap n = (k : Int) := wrap_u64_of (by omega)
    have MK2 := Lib.hid (fun v wx hv => MK.out false v wx hv)
    rw [hz] at MK2
    clear hz hk hl MK h1 h2 hkb KB
    go_enter Tryz.func48, Tryz.ntmps48
    go_upto_region 1 with fail
    obtain ⟨g1, hB0, hsz⟩ := one_block w (.cells #[.bool false, .slice none 0 0] 25)
    generalize w.alloc (.cells #[.bool false, .slice none 0 0] 25) = W at *
    have HG := Lib.hid g1
    have HB0 := Lib.hid hB0
    have HS0 := Lib.hid (Nat.le_of_lt hsz)
    clear g1 hB0 hsz
    generalize hj : w.heap.size = j3 at *
    have HJ := Lib.hid hj
    clear hj
    go_wp2_with fail
    refine (OC.out _).mono ?_
    rintro e w1 ⟨v, rfl, hno, hb⟩
    have HN := Lib.hid hno
    have HB1 := Lib.hid (HB0.out.trans (hb.mono HS0.out))
    have HG1 := Lib.hid (block_of hb HG.out)
    have HS1 := Lib.hid (Nat.le_trans HS0.out hb.size)
    clear hno hb
    go_wp2_with fail
    refine (MK2.out _ _ HN.out.nv).mono ?_
    rintro e w2 ⟨v, rfl, hno, hb⟩
    obtain ⟨a4, c4, rfl⟩ := hno.slice
    have HN2 := Lib.hid hno
    have hb2 := Lib.hid (HB1.out.trans (hb.mono HS1.out))
    have hgg := block_of hb HG1.out
    have hg2 := Lib.hid hgg
    have hf0 := frozen_of_row _ _ 0 _ _ hgg
    have hf1 := frozen_of_row _ _ 1 _ _ hgg
    have hr0 := cell_of_row _ _ 0 _ _ (0, 0) hgg
    have hr1 := cell_of_row _ _ 1 _ _ (0, 0) hgg
    clear hno hb hgg
    generalize hze : decide (n < 0) = bb at *
    have HZE := Lib.hid hze
    clear hze
    go_wp2_with fail
    refine ret_row rfl _ _ j3 25 _ (0, 0) rfl (stored2 hg2.out _ _) und_Int size_Int ?_
    have hj := HJ.out
    subst hj
    obtain ⟨f1, f2⟩ := filled hb2.out (Nat.le_refl _) HN2.out (heap_lt HG1.out) (.bool bb) (.slice a4 (Dg.db B64 n.natAbs).length c4)
    exact ⟨.slice a4 (Dg.db B64 n.natAbs).length c4, by rw [HZE.out], f1, f2⟩

end Go.Proofs.YthlpfhenaakljaaGreatDoor

namespace Go.Proofs.YthlpfhenaakljaaGreatDoor
open Go.RowKit

/-- A fraction that owns its limbs: its numerator's value and its denominator's. -/
def RR (z : Int) (d : Nat) (B : Nat) (w : World) (v : Value) : Prop :=
  ∃ vn vd, v = .agg #[.bool (decide (z < 0)), vn, vd] ∧ No B w vn (Dg.db B64 z.natAbs) ∧ No B w vd (Dg.db B64 d)

/-- What rat.Make answers. -/
def RetMk (b : Bool) (n d : Nat) (w : World) (e : Ending) (w' : World) : Prop :=
  Below w.heap.size w w' ∧ (d = 0 → e = .returned (.tuple #[.agg #[.bool false, .slice none 0 0, .slice none 0 0], .int .i64 7])) ∧
  (d ≠ 0 → ∃ v, e = .returned (.tuple #[v, .int .i64 0]) ∧ RR (sgn b (n / Nat.gcd n d)) (d / Nat.gcd n d) w.heap.size w' v)

theorem stored3 {w1 : World} {g : Nat} {a b c : Value} {t : TypeId} (h : w1.heap[g]? = some (.cells #[a, b, c] t (0, 0))) (x y z : Value) :
    (((w1.setCell ⟨g, 0, none⟩ x).setCell ⟨g, 1, none⟩ y).setCell ⟨g, 2, none⟩ z).heap[g]? = some (.cells #[x, y, z] t (0, 0)) := by
  rw [heap_setCell_same _ g 2 _ t z (heap_setCell_same _ g 1 _ t y (heap_setCell_same _ g 0 _ t x h))]
  simp

theorem und_Rat : (Tryz.prog.underlying 27).map (fun d => match d with | .struct _ | .array _ _ => true | _ => false) = some true := by kernel_rfl
theorem size_Rat : (Tryz.prog.info? 27).map (·.size) = some 3 := by kernel_rfl

theorem ret_row_tmp {fn : Func} {p u : Tmp} {ty : TypeId} {post : Ending → World → Prop} (hr : fn.results = #[.cell p ty, .tmp u]) (tmps : Array Value) (w : World) (g : Nat) (t : TypeId) (cs : Array Value) (fr : Nat × Nat)
    (hp : tmps.getD p undef = .pointer (some ⟨g, 0, none⟩)) (hg : w.heap[g]? = some (.cells cs t fr))
    (hu : (Tryz.prog.underlying ty).map (fun d => match d with | .struct _ | .array _ _ => true | _ => false) = some true) (hi : (Tryz.prog.info? ty).map (·.size) = some cs.size)
    (h : post (.returned (.tuple #[.agg cs, tmps.getD u undef])) w) : bodyPost Tryz.prog fn post .ret { tmps := tmps, defers := [] } w := by
  cases hd : Tryz.prog.underlying ty with
  | none => rw [hd] at hu; cases hu
  | some d =>
    rw [hd] at hu
    refine bodyPost_ret (v := .tuple #[.agg cs, tmps.getD u undef]) ?_ rfl h
    have hp' : tmps[p]?.getD undef = .pointer (some ⟨g, 0, none⟩) := by simpa using hp
    simp [results, hr, hp', asAddr, run_loadVar_row w g t ty cs fr d hg hd (by revert hu; cases d <;> simp) hi]

set_option maxHeartbeats 800000 in
theorem rmake0_calls (b : Bool) (m1 m2 : Value) (xs ys : List Nat) (w : World) (h1 : Nv w m1 xs) (h2 : Nv w m2 ys) (l2 : ys.length ≤ 549755813888) (h0 : Dg.dv B64 ys = 0) :
    Calls Tryz.prog 23 #[.agg #[.bool b, m1], m2] w (RetMk b (Dg.dv B64 xs) (Dg.dv B64 ys) w) := by
  obtain ⟨_, a1, c1, rfl, _, _⟩ := id h1
  obtain ⟨_, a2, c2, rfl, _, _⟩ := id h2
  have Z := Lib.hid (fun wx (hb : Below w.heap.size w wx) => zero_calls _ ys wx (h2.below hb) (by omega))
  rw [decide_eq_true h0] at Z
  have H0 := Lib.hid h0
  clear h1 h2 h0
  go_enter Tryz.func23, Tryz.ntmps23
  go_upto_region 1 with fail
  obtain ⟨g1, g2, hB0, hsz⟩ := two_blocks w (.cells #[.bool b, .slice a1 xs.length c1] 25) (.cells #[.bool false, .slice none 0 0, .slice none 0 0] 27)
  generalize (w.alloc (.cells #[.bool b, .slice a1 xs.length c1] 25)).alloc (.cells #[.bool false, .slice none 0 0, .slice none 0 0] 27) = W at *
  have HZ := Lib.hid (Z.out _ hB0)
  have HG := Lib.hid g2
  have HB0 := Lib.hid hB0
  have hf0 := frozen_of_row _ _ 0 _ _ g2
  have hf1 := frozen_of_row _ _ 1 _ _ g2
  have hf2 := frozen_of_row _ _ 2 _ _ g2
  have hr0 := cell_of_row _ _ 0 _ _ (0, 0) g2
  have hr1 := cell_of_row _ _ 1 _ _ (0, 0) g2
  have hr2 := cell_of_row _ _ 2 _ _ (0, 0) g2
  have hge := Lib.hid (show w.heap.size ≤ w.heap.size + 1 by omega)
  clear g1 g2 hB0 hsz Z
  generalize w.heap.size + 1 = j3 at *
  go_wp2_with fail
  refine HZ.out.mono ?_
  rintro e w1 ⟨rfl, rfl⟩
  go_wp2_with fail
  refine ret_row_tmp rfl _ _ j3 27 _ (0, 0) rfl (stored3 HG.out _ _ _) und_Rat size_Rat ?_
  exact ⟨((HB0.out.setCell hge.out _).setCell hge.out _).setCell hge.out _, fun _ => rfl, (fun h => absurd H0.out h)⟩

theorem filled3 {w w2 : World} {g : Nat} (hb : Below w.heap.size w w2) (hg : w.heap.size ≤ g) (x y z : Value) :
    Below w.heap.size w (((w2.setCell ⟨g, 0, none⟩ x).setCell ⟨g, 1, none⟩ y).setCell ⟨g, 2, none⟩ z) ∧
    ∀ B v xs, g < B → No B w2 v xs → No w.heap.size (((w2.setCell ⟨g, 0, none⟩ x).setCell ⟨g, 1, none⟩ y).setCell ⟨g, 2, none⟩ z) v xs :=
  ⟨((hb.setCell hg _).setCell hg _).setCell hg _, fun B v xs hgB hn => by
    have hne : v.ownBlock ≠ some g := fun h => by have := (hn.lt _ h).1; omega
    exact (((hn.mono (by omega)).kept (grownBy_setCell _ _ _ _) hne).kept (grownBy_setCell _ _ _ _) hne).kept (grownBy_setCell _ _ _ _) hne⟩

set_option maxHeartbeats 1600000 in
theorem rmake1_calls (b : Bool) (m1 m2 : Value) (xs ys : List Nat) (w : World) (h1 : Nv w m1 xs) (h2 : Nv w m2 ys) (l1 : xs.length ≤ 549755813888) (l2 : ys.length ≤ 549755813888) (h0 : Dg.dv B64 ys ≠ 0) :
    Calls Tryz.prog 23 #[.agg #[.bool b, m1], m2] w (RetMk b (Dg.dv B64 xs) (Dg.dv B64 ys) w) := by
  obtain ⟨_, a1, c1, rfl, _, _⟩ := id h1
  obtain ⟨_, a2, c2, rfl, _, _⟩ := id h2
  have hgp : 0 < Nat.gcd (Dg.dv B64 xs) (Dg.dv B64 ys) := Nat.gcd_pos_of_pos_right _ (by omega)
  have hgl : (Dg.db B64 (Nat.gcd (Dg.dv B64 xs) (Dg.dv B64 ys))).length ≤ 549755813888 :=
    Nat.le_trans (db_len_mono (Nat.le_of_dvd (by omega) (Nat.gcd_dvd_right _ _))) (db_len_le h2.1 l2)
  have hnl : (Dg.db B64 (Dg.dv B64 xs / Nat.gcd (Dg.dv B64 xs) (Dg.dv B64 ys))).length ≤ 549755813888 :=
    Nat.le_trans (db_len_mono (Nat.div_le_self _ _)) (db_len_le h1.1 l1)
  have Z := Lib.hid (fun wx (hb : Below w.heap.size w wx) => zero_calls _ ys wx (h2.below hb) (by omega))
  have G := Lib.hid (fun wx (hb : Below w.heap.size w wx) => gcd_calls _ _ xs ys wx (h1.below hb) (h2.below hb) l1 l2)
  have D1 := Lib.hid (fun wx v (hb : Below w.heap.size w wx) (hv : Nv wx v (Dg.db B64 (Nat.gcd (Dg.dv B64 xs) (Dg.dv B64 ys)))) => div_calls _ v xs _ wx (h1.below hb) hv l1 hgl)
  have D2 := Lib.hid (fun wx v (hb : Below w.heap.size w wx) (hv : Nv wx v (Dg.db B64 (Nat.gcd (Dg.dv B64 xs) (Dg.dv B64 ys)))) => div_calls _ v ys _ wx (h2.below hb) hv l2 hgl)
  have MK := Lib.hid (fun wx v (hv : Nv wx v (Dg.db B64 (Dg.dv B64 xs / Nat.gcd (Dg.dv B64 xs) (Dg.dv B64 ys)))) => wmake_calls b v _ wx hv (by omega))
  rw [Dg.dv_db (by decide)] at D1 D2 MK
  rw [decide_eq_false h0] at Z
  have H0 := Lib.hid h0
  have HGP := Lib.hid (show Nat.gcd (Dg.dv B64 xs) (Dg.dv B64 ys) ≠ 0 by omega)
  clear h1 h2 h0 hgp hgl hnl l1 l2
  generalize Dg.dv B64 xs = n at *
  generalize Dg.dv B64 ys = d at *
  generalize hq1 : n / Nat.gcd n d = q1 at *
  have HQ1 := Lib.hid hq1
  clear hq1
  go_enter Tryz.func23, Tryz.ntmps23
  go_upto_region 1 with fail
  obtain ⟨g1, g2, hB0, hsz⟩ := two_blocks w (.cells #[.bool b, .slice a1 xs.length c1] 25) (.cells #[.bool false, .slice none 0 0, .slice none 0 0] 27)
  generalize (w.alloc (.cells #[.bool b, .slice a1 xs.length c1] 25)).alloc (.cells #[.bool false, .slice none 0 0, .slice none 0 0] 27) = W at *
  have HZ := Lib.hid (Z.out _ hB0)
  have HGc := Lib.hid (G.out _ hB0)
  have HG1 := Lib.hid g1
  have HG2 := Lib.hid g2
  have HB0 := Lib.hid hB0
  have HS0 := Lib.hid (show w.heap.size ≤ W.heap.size by omega)
  have hc1 := cell_of_row _ _ 1 _ _ (0, 0) g1
  have hge := Lib.hid (show w.heap.size ≤ w.heap.size + 1 by omega)
  clear g1 g2 hB0 hsz Z G
  generalize w.heap.size + 1 = j3 at *
  generalize hj : w.heap.size = j1 at *
  have HJ := Lib.hid hj
  clear hj
  go_wp2_with fail
  refine HZ.out.mono ?_
  rintro e w1 ⟨rfl, rfl⟩
  go_wp2_with fail
  refine HGc.out.mono ?_
  rintro e w2 ⟨vg, rfl, hno, hb⟩
  have HN2 := Lib.hid hno
  have HB2 := Lib.hid (HB0.out.trans (hb.mono HS0.out))
  have HS2 := Lib.hid (Nat.le_trans HS0.out hb.size)
  have HG1 := Lib.hid (block_of hb HG1.out)
  have HG2 := Lib.hid (block_of hb HG2.out)
  have hc1 := cell_of_row _ _ 1 _ _ (0, 0) HG1.out
  clear hno hb
  go_wp2_with fail
  refine (D1.out _ _ HB2.out HN2.out.nv).mono ?_
  rintro e w3 ⟨hb, _, hq⟩
  obtain ⟨vq, vr, rfl, hno, _⟩ := hq HGP.out
  have HN3 := Lib.hid hno
  have HNG := Lib.hid (HN2.out.below hb)
  have HB3 := Lib.hid (HB2.out.trans (hb.mono HS2.out))
  have HS3 := Lib.hid (Nat.le_trans HS2.out hb.size)
  have HG1 := Lib.hid (block_of hb HG1.out)
  have HG2 := Lib.hid (block_of hb HG2.out)
  have hc1 := cell_of_row _ _ 1 _ _ (0, 0) HG1.out
  clear hno hb hq
  go_wp2_with fail
  refine (D2.out _ _ HB3.out HNG.out.nv).mono ?_
  rintro e w4 ⟨hb, _, hq⟩
  obtain ⟨vq2, vr2, rfl, hno, _⟩ := hq HGP.out
  obtain ⟨a4, c4, rfl⟩ := hno.slice
  have HN4 := Lib.hid hno
  have HNQ := Lib.hid (HN3.out.below hb)
  have HB4 := Lib.hid (HB3.out.trans (hb.mono HS3.out))
  have HS4 := Lib.hid (Nat.le_trans HS3.out hb.size)
  have hj3 := Lib.hid (heap_lt HG2.out)
  have HG1 := Lib.hid (block_of hb HG1.out)
  have HG2 := Lib.hid (block_of hb HG2.out)
  have hc1 := cell_of_row _ _ 1 _ _ (0, 0) HG1.out
  have hc0 := cell_of_row _ _ 0 _ _ (0, 0) HG1.out
  rw [HQ1.out] at HNQ
  clear hno hb hq
  go_wp2_with fail
  refine (MK.out _ _ HNQ.out.nv).mono ?_
  rintro e w5 ⟨vn, rfl, hno, hb⟩
  obtain ⟨a5, c5, rfl⟩ := hno.slice
  have HN5 := Lib.hid hno
  have HND := Lib.hid (HN4.out.below hb)
  have HB5 := Lib.hid (HB4.out.trans (hb.mono HS4.out))
  have hj34 := Lib.hid (heap_lt HG2.out)
  have HG2 := Lib.hid (block_of hb HG2.out)
  have hf0 := frozen_of_row _ _ 0 _ _ HG2.out
  have hf1 := frozen_of_row _ _ 1 _ _ HG2.out
  have hf2 := frozen_of_row _ _ 2 _ _ HG2.out
  have hr0 := cell_of_row _ _ 0 _ _ (0, 0) HG2.out
  have hr1 := cell_of_row _ _ 1 _ _ (0, 0) HG2.out
  have hr2 := cell_of_row _ _ 2 _ _ (0, 0) HG2.out
  clear hno hb
  generalize hze : decide (sgn b q1 < 0) = bb at *
  have HZE := Lib.hid hze
  clear hze
  go_wp2_with fail
  refine ret_row_tmp rfl _ _ j3 27 _ (0, 0) rfl (stored3 HG2.out _ _ _) und_Rat size_Rat ?_
  have hj := HJ.out
  subst hj
  obtain ⟨f1, f2⟩ := filled3 HB5.out hge.out (.bool bb) (.slice a5 (Dg.db B64 (sgn b q1).natAbs).length c5) (.slice a4 (Dg.db B64 (d / Nat.gcd n d)).length c4)
  refine ⟨f1, (fun h => absurd h H0.out), fun _ => ⟨_, rfl, ?_⟩⟩
  rw [HQ1.out]
  exact ⟨.slice a5 (Dg.db B64 (sgn b q1).natAbs).length c5, .slice a4 (Dg.db B64 (d / Nat.gcd n d)).length c4, by rw [HZE.out], f2 _ _ _ hj34.out HN5.out, f2 _ _ _ hj3.out HND.out⟩

theorem rmake_calls (b : Bool) (m1 m2 : Value) (xs ys : List Nat) (w : World) (h1 : Nv w m1 xs) (h2 : Nv w m2 ys) (l1 : xs.length ≤ 549755813888) (l2 : ys.length ≤ 549755813888) :
    Calls Tryz.prog 23 #[.agg #[.bool b, m1], m2] w (RetMk b (Dg.dv B64 xs) (Dg.dv B64 ys) w) := by
  by_cases h0 : Dg.dv B64 ys = 0
  · exact rmake0_calls b m1 m2 xs ys w h1 h2 l2 h0
  · exact rmake1_calls b m1 m2 xs ys w h1 h2 l1 l2 h0

end Go.Proofs.YthlpfhenaakljaaGreatDoor

namespace Go.Proofs.YthlpfhenaakljaaGreatDoor
open Go.RowKit

theorem db_one : Dg.db B64 1 = [1] := by
  rw [Dg.db_pos (by decide) (by decide)]
  have h1 : 1 % B64 = 1 := by decide
  have h2 : 1 / B64 = 0 := by decide
  rw [h1, h2, Dg.db_zero]

set_option maxHeartbeats 400000 in
theorem one_of_calls (w : World) : Calls Tryz.prog 49 #[] w (RetN (Dg.db B64 1) w) := by
  have hown : (w.alloc (.cells #[.int .u64 1] 43)).ownsRow w.heap.size 43 1 (.slice (some ⟨w.heap.size, 0, none⟩) 1 1) 1 (us [1]) :=
    World.ownsRow_lit w #[.int .u64 1] 1 (Nat.le_refl _) (by decide) rfl
  rw [db_one]
  go_enter Tryz.func49, Tryz.ntmps49
  go_wp2_with fail
  go_ret
  exact ⟨_, rfl, ⟨fun x hx => by simp at hx; subst hx; decide, hown⟩, (Below.refl _ _).alloc (Nat.le_refl _) _⟩

set_option maxHeartbeats 1600000 in
theorem by_calls (b1 : Bool) (m1 m2 : Value) (xs ys : List Nat) (w : World) (h1 : Nv w m1 xs) (h2 : Nv w m2 ys) (l1 : xs.length ≤ 274877906944) (l2 : ys.length ≤ 274877906944) :
    Calls Tryz.prog 35 #[.agg #[.bool b1, m1], m2] w (RetI (sgn b1 (Dg.dv B64 xs * Dg.dv B64 ys)) w) := by
  obtain ⟨_, a1, c1, rfl, _, _⟩ := id h1
  obtain ⟨_, a2, c2, rfl, _, _⟩ := id h2
  have hlen : (Dg.db B64 (Dg.dv B64 xs * Dg.dv B64 ys)).length ≤ 549755813888 := by
    refine Nat.le_trans (Dg.db_length (k := xs.length + ys.length) (by decide) ?_) (by omega)
    rw [Nat.pow_add]
    exact Nat.mul_lt_mul'' (Dg.dv_lt xs h1.1) (Dg.dv_lt ys h2.1)
  go_enter Tryz.func35, Tryz.ntmps35
  go_wp2_with fail
  obtain ⟨g1, g3, hB0, hsz⟩ := two_blocks w (.cells #[.bool b1, .slice a1 xs.length c1] 25) (.cells #[.bool false, .slice none 0 0] 25)
  generalize (w.alloc (.cells #[.bool b1, .slice a1 xs.length c1] 25)).alloc (.cells #[.bool false, .slice none 0 0] 25) = W at *
  have HM := Lib.hid (mul_calls _ _ xs ys W.drew ((h1.below hB0).below (Below.refl _ _).drew) ((h2.below hB0).below (Below.refl _ _).drew) (by omega) (by omega))
  have HG := Lib.hid g3
  have HB0 := Lib.hid hB0
  have HS0 := Lib.hid (show w.heap.size ≤ W.heap.size by omega)
  have hc1 : W.cell? ⟨w.heap.size, 0, none⟩ = some (.bool b1) := cell_of_row W _ 0 _ _ (0, 0) g1
  have hc2 : W.cell? ⟨w.heap.size, 1, none⟩ = some (.slice a1 xs.length c1) := cell_of_row W _ 1 _ _ (0, 0) g1
  clear g1 g3 hB0 hsz h1 h2 l1 l2
  have hge : Hid (w.heap.size ≤ w.heap.size + 1) := Lib.hid (by omega)
  have hn1 : w.heap.size ≠ w.heap.size + 1 := by omega
  have hn1' : w.heap.size + 1 ≠ w.heap.size := by omega
  generalize w.heap.size + 1 = j3 at *
  generalize hj1 : w.heap.size = j1 at *
  have HJ1 := Lib.hid hj1
  clear hj1
  go_region_held3 (fun w' => w'.cell? ⟨j1, 0, none⟩ = some (.bool b1) ∧ w'.cell? ⟨j1, 1, none⟩ = some (.slice a1 xs.length c1)) (go_keep)
    (first
      | (go_at_call 33
         refine HM.out.mono ?_
         rintro e w1 ⟨v, rfl, hno, hb⟩
         obtain ⟨a3, c3, rfl⟩ := hno.slice
         have HN := Lib.hid hno
         have hb1 := Lib.hid ((HB0.out.drew).trans (hb.mono HS0.out))
         have hs1 := Lib.hid (Nat.le_trans HS0.out hb.size)
         have hg1 := Lib.hid (block_of hb HG.out)
         have hcc1 := (block_of_cell hb hc1)
         have hcc2 := (block_of_cell hb hc2)
         clear hno hb)
      | (go_at_call 32
         refine (wmake_calls b1 _ _ _ HN.out.nv (by omega)).mono ?_
         rintro e w2 ⟨v, rfl, hno, hb⟩
         obtain ⟨a4, c4, rfl⟩ := hno.slice
         have HN2 := Lib.hid hno
         have hb2 := Lib.hid (hb1.out.trans (hb.mono hs1.out))
         have hgg := block_of hb hg1.out
         have hg2 := Lib.hid hgg
         have hf0 := frozen_of_row _ _ 0 _ _ hgg
         have hf1 := frozen_of_row _ _ 1 _ _ hgg
         have hr0 := cell_of_row _ _ 0 _ _ (0, 0) hgg
         have hr1 := cell_of_row _ _ 1 _ _ (0, 0) hgg
         have hcd1 := (block_of_cell hb hcc1)
         have hcd2 := (block_of_cell hb hcc2)
         clear hno hb hgg))
  have HG2 := hg2.out
  go_wp2_with fail
  refine ret_row rfl _ _ j3 25 _ (0, 0) rfl (stored2 HG2 _ _) und_Int size_Int ?_
  have hj := HJ1.out
  subst hj
  obtain ⟨f1, f2⟩ := filled hb2.out hge.out HN2.out (heap_lt hg1.out) (.bool (decide (sgn b1 (Dg.dv B64 (Dg.db B64 (Dg.dv B64 xs * Dg.dv B64 ys))) < 0)))
    (.slice a4 (Dg.db B64 (sgn b1 (Dg.dv B64 (Dg.db B64 (Dg.dv B64 xs * Dg.dv B64 ys)))).natAbs).length c4)
  have e : sgn b1 (Dg.dv B64 xs * Dg.dv B64 ys) = sgn b1 (Dg.dv B64 (Dg.db B64 (Dg.dv B64 xs * Dg.dv B64 ys))) := by rw [Dg.dv_db (by decide)]
  rw [e]
  exact ⟨_, rfl, f1, f2⟩

end Go.Proofs.YthlpfhenaakljaaGreatDoor
