/- strings.Builder: copyCheck and WriteString. dec.digits of one digit. dec.Show of one digit. whole.Show of one digit. rat.Show of small fractions. The contracts of law06.awake's calls. A region that draws its order, each operation walked once: what an operation brings is said of the frame and the world, and stays so whatever else comes up. A region that draws its order and only adds to the world: each operation walked once; what a slot holds is said slot by slot. Regions over fractions: what a slot holds, and what loads, calls and literals bring. law06.awake. -/
import Derived.Test.YthlpfhenaakljaaGreatDoorL09
import Derived.Laws.IdiomStrings
import Derived.Test.YthlpfhenaakljaaGreatDoorProg
import Derived.WalkKit
import Derived.Deep.Quiet
import Derived.Deep.QuietTactic
import Derived.StillTail
import Derived.Conc.MuLone
namespace Go.Proofs.YthlpfhenaakljaaGreatDoor
open Go.RowKit

theorem size_Builder : (Tryz.prog.info? 108).map (·.size) = some 2 := by kernel_rfl
theorem und_PBuilder : Tryz.prog.underlying 105 = some (.pointer 108) := by kernel_rfl
theorem und_unsafe : Tryz.prog.underlying 138 = some .unsafePointer := by kernel_rfl
theorem lies_Builder : liesAt Tryz.prog Tryz.prog.depth 108 (2 / Tryz.prog.cellsOf 108) 0 108 1 = true := by kernel_rfl
theorem und_bytes : Tryz.prog.underlying 106 = some (.slice 5) := by kernel_rfl
theorem und_str : Tryz.prog.underlying 9 = some .string := by kernel_rfl
theorem info_byte : (Tryz.prog.info? 5).map (fun i => (i.zero, i.size, i.bytes)) = some (some (.int .u8 0), 1, 1) := by kernel_rfl

set_option maxHeartbeats 1000000 in
set_option maxRecDepth 100000 in
theorem ccheck_used (b : Nat) (w : World) (h0 : w.cell? ⟨b, 0, none⟩ = some (.pointer (some ⟨b, 0, none⟩))) :
    Calls Tryz.prog 118 #[.pointer (some ⟨b, 0, none⟩)] w fun e w' => e = .returned (.tuple #[]) ∧ w' = w := by
  obtain ⟨j, hj, _⟩ := Option.map_eq_some_iff.1 size_Builder
  go_enter Tryz.func118, Tryz.ntmps118
  go_wp2
  rw [Lib.run_neq_ptr_same w _ und_PBuilder hj]
  go_wp2
  go_end0
  exact ⟨rfl, rfl⟩

set_option maxHeartbeats 1000000 in
set_option maxRecDepth 100000 in
theorem ccheck_fresh (b : Nat) (w : World) (h0 : w.cell? ⟨b, 0, none⟩ = some (.pointer none)) (hsh : w.shape? b = some (108, 2)) (hfz : w.frozen? ⟨b, 0, none⟩ = false) :
    Calls Tryz.prog 118 #[.pointer (some ⟨b, 0, none⟩)] w fun e w' => e = .returned (.tuple #[]) ∧ w' = w.setCell ⟨b, 0, none⟩ (.pointer (some ⟨b, 0, none⟩)) := by
  obtain ⟨j, hj, hjs⟩ := Option.map_eq_some_iff.1 size_Builder
  go_enter Tryz.func118, Tryz.ntmps118
  go_wp2
  rw [Lib.run_to_unsafe w ⟨b, 0, none⟩ und_PBuilder und_unsafe hj (by rw [hjs]; decide) hsh (Nat.zero_lt_succ 1)]
  simp only [Result.andThen]
  rw [Oper.upon_value]
  go_wp2
  rw [run_callFunc_extern Tryz.func131 (by kernel_rfl) (by kernel_rfl) (by kernel_rfl) (e := Extern.AbiNoEscape.same) (by kernel_rfl)]
  rw [Lib.run_noEscape]
  simp only [Result.andThen]
  rw [Oper.upon_value]
  go_wp2
  rw [Lib.run_from_unsafe w ⟨b, 0, none⟩ und_unsafe und_PBuilder hj hsh lies_Builder]
  simp only [Result.andThen]
  rw [Oper.upon_value]
  go_wp2
  go_end0
  exact ⟨rfl, rfl⟩

theorem ccheck_calls (B b : Nat) (bs : List Value) (w : World) (h : Lib.IsBuilder 108 5 B b bs w) :
    Calls Tryz.prog 118 #[.pointer (some ⟨b, 0, none⟩)] w fun e w' => e = .returned (.tuple #[]) ∧ (Lib.BuilderAt 108 5 B b (.pointer (some ⟨b, 0, none⟩)) bs w' ∧ Below B w w') := by
  rcases h with h | h
  · refine (ccheck_fresh b w h.cell0 h.shape h.frozen0).mono ?_
    rintro e w' ⟨rfl, rfl⟩
    exact ⟨rfl, h.used _, (Below.refl B w).setCell (p := ⟨b, 0, none⟩) h.1 _⟩
  · refine (ccheck_used b w h.cell0).mono ?_
    rintro e w' ⟨rfl, rfl⟩
    exact ⟨rfl, h, Below.refl B _⟩

set_option maxHeartbeats 2000000 in
set_option maxRecDepth 100000 in
theorem wstr_calls (B b : Nat) (bs : List Value) (s : ByteArray) (w : World) (h : Lib.IsBuilder 108 5 B b bs w) (hlen : bs.length + s.size ≤ 140737488355328) (hBw : B ≤ w.heap.size) :
    Calls Tryz.prog 89 #[.pointer (some ⟨b, 0, none⟩), .string s] w fun e w' => e = .returned (.tuple #[.int .i64 s.size, .nilIface]) ∧ (Lib.BuilderAt 108 5 B b (.pointer (some ⟨b, 0, none⟩)) (bs ++ Lib.strCells s) w' ∧ Below B w w') := by
  obtain ⟨i0, hi, hz0, hz1, hz2⟩ := info_parts info_byte
  go_enter Tryz.func89, Tryz.ntmps89
  go_wp2_with fail
  refine (ccheck_calls B b bs _ h).mono ?_
  rintro e w1 ⟨rfl, h1, hb1⟩
  obtain ⟨hB, v, hbk, hown, hne⟩ := h1
  have c0 : w1.cell? ⟨b, 0, none⟩ = some (.pointer (some ⟨b, 0, none⟩)) := by rw [Lib.cell_of_heap hbk]; rfl
  have c1 : w1.cell? ⟨b, 1, none⟩ = some v := by rw [Lib.cell_of_heap hbk]; rfl
  go_wp2_with (at_builtin; refine Lib.wpList_append_own_string _ rfl _ _ 106 9 rfl B 5 i0 und_bytes und_str hi hz0 hz1 hz2 _ _ _ rfl hown s rfl ?c3 ?c4 ?c5 ?_)
  case c3 => unfold maxLen; omega
  case c4 => omega
  case c5 => have := hb1.size; omega
  intro v' w2 hown' hgrow _
  have hlt : b < w1.heap.size := by
    rcases Nat.lt_or_ge b w1.heap.size with h' | h'
    · exact h'
    · simp [Array.getElem?_eq_none h'] at hbk
  have hb2 : w2.heap[b]? = some (.cells #[.pointer (some ⟨b, 0, none⟩), v] 108 (0, 0)) := by
    rw [hgrow.block b hlt (fun e => hne e.symm)]
    exact hbk
  have d0 : w2.cell? ⟨b, 0, none⟩ = some (.pointer (some ⟨b, 0, none⟩)) := by rw [Lib.cell_of_heap hb2]; rfl
  have d1 : w2.cell? ⟨b, 1, none⟩ = some v := by rw [Lib.cell_of_heap hb2]; rfl
  have f1 : w2.frozen? ⟨b, 1, none⟩ = false := Lib.frozen_of_heap hb2 1
  obtain ⟨ao, n', cap, rfl⟩ : ∃ ao n' cap, v' = .slice ao n' cap := by
    rcases hown'.2 with ⟨hv, _⟩ | ⟨g, cap, cur, hv, _⟩
    · exact ⟨_, _, _, hv⟩
    · exact ⟨_, _, _, hv⟩
  go_wp2
  go_ret2
  refine ⟨rfl, ?_, ?_⟩
  · exact Lib.BuilderAt.put (T := 108) (e := 5) hB hb2 (bs' := bs ++ Lib.strCells s) (by simpa [Lib.strCells_length] using hown') (by decide)
  · exact (hb1.grown hgrow (by have := hb1.size; omega) (fun k hk => (hown.lt k hk).1)).setCell (p := ⟨b, 1, none⟩) hB _

end Go.Proofs.YthlpfhenaakljaaGreatDoor

namespace Go.Proofs.YthlpfhenaakljaaGreatDoor
open Go.RowKit

def dgAt (d k j : Nat) : Int := if j + k < 20 then 0 else if j = 19 then 48 + d else 48
def dgRow (d k : Nat) : Array Value := Array.ofFn (n := 20) fun j => .int .u8 (dgAt d k j.val)

theorem dgRow_zero (d : Nat) : dgRow d 0 = #[.int .u8 0, .int .u8 0, .int .u8 0, .int .u8 0, .int .u8 0, .int .u8 0, .int .u8 0, .int .u8 0, .int .u8 0, .int .u8 0, .int .u8 0, .int .u8 0, .int .u8 0, .int .u8 0, .int .u8 0, .int .u8 0, .int .u8 0, .int .u8 0, .int .u8 0, .int .u8 0] := by
  kernel_rfl

theorem dgRow_size (d k : Nat) : (dgRow d k).size = 20 := by simp [dgRow]

theorem dgRow_get (d k j : Nat) (hj : j < 20) : (dgRow d k)[j]? = some (.int .u8 (dgAt d k j)) := by
  simp [dgRow, hj]

theorem dgRow_set (d k : Nat) (hk : k < 20) (x : Int) (hx : x = if k = 0 then 48 + (d : Int) else 48) : (dgRow d k).setIfInBounds (19 - k) (.int .u8 x) = dgRow d (k + 1) := by
  apply Array.ext
  · simp [dgRow]
  · intro j h1 h2
    have hj : j < 20 := by simpa [dgRow] using h2
    rw [Array.getElem_setIfInBounds (by simpa [dgRow] using hj)]
    subst hx
    by_cases h : 19 - k = j
    · subst h
      simp [dgRow, dgAt]
      split <;> split <;> first | rfl | omega | skip
      all_goals (split <;> first | rfl | omega)
    · rw [if_neg h]
      simp only [dgRow, Array.getElem_ofFn, dgAt]
      have hiff : (j + k < 20) ↔ (j + (k + 1) < 20) := by omega
      simp [hiff]

theorem und_u8 : Tryz.prog.underlying 5 = some (.int .u8) := by kernel_rfl

theorem digs_cells (d : Nat) (hd : d < 10) (c : UInt8) (hc : c = UInt8.ofNat (48 + d)) (w : World) (b : Nat) (h : ∀ j, j < 20 → w.cell? ⟨b, j, none⟩ = some (.int .u8 (dgAt d 20 j))) :
    ∀ j (hj : j < ([48, 48, 48, 48, 48, 48, 48, 48, 48, 48, 48, 48, 48, 48, 48, 48, 48, c] : List UInt8).length),
      w.cell? ((⟨b, 2, none⟩ : Addr).add j) = some (.int .u8 (([48, 48, 48, 48, 48, 48, 48, 48, 48, 48, 48, 48, 48, 48, 48, 48, 48, c] : List UInt8)[j].toNat : Int)) := by
  subst hc
  intro j hj
  have hj' : j < 18 := hj
  have hplain : (⟨b, 2, none⟩ : Addr).add j = ⟨b, 2 + j, none⟩ := by unfold Addr.add; split <;> simp_all
  rw [hplain, h (2 + j) (by omega)]
  have hdd : d = 0 ∨ d = 1 ∨ d = 2 ∨ d = 3 ∨ d = 4 ∨ d = 5 ∨ d = 6 ∨ d = 7 ∨ d = 8 ∨ d = 9 := by omega
  have hjj : j = 0 ∨ j = 1 ∨ j = 2 ∨ j = 3 ∨ j = 4 ∨ j = 5 ∨ j = 6 ∨ j = 7 ∨ j = 8 ∨ j = 9 ∨ j = 10 ∨ j = 11 ∨ j = 12 ∨ j = 13 ∨ j = 14 ∨ j = 15 ∨ j = 16 ∨ j = 17 := by omega
  congr 2
  by_cases h17 : j = 17
  · subst h17
    rcases hdd with rfl | rfl | rfl | rfl | rfl | rfl | rfl | rfl | rfl | rfl <;> rfl
  · rcases hjj with rfl | rfl | rfl | rfl | rfl | rfl | rfl | rfl | rfl | rfl | rfl | rfl | rfl | rfl | rfl | rfl | rfl | rfl <;> first | rfl | exact absurd rfl h17

theorem row_setCell (w : World) (b j : Nat) (cs : Array Value) (T : TypeId) (fr : Nat × Nat) (v : Value) (hb : w.heap[b]? = some (.cells cs T fr)) : (w.setCell ⟨b, j, none⟩ v).heap[b]? = some (.cells (cs.setIfInBounds j v) T fr) := by
  simp [World.setCell, Array.getElem?_modify, hb]

set_option maxHeartbeats 2000000 in
set_option maxRecDepth 100000 in
theorem ddig_calls (d : Nat) (hd : d < 10) (c : UInt8) (hc : c = UInt8.ofNat (48 + d)) (w : World) : Calls Tryz.prog 88 #[.int .u64 d, .int .i64 18] w (fun e w' => e = .returned (.string ⟨#[48, 48, 48, 48, 48, 48, 48, 48, 48, 48, 48, 48, 48, 48, 48, 48, 48, c]⟩) ∧ Below w.heap.size w w') := by
  have HC := Lib.hid hc
  clear hc
  go_enter Tryz.func88, Tryz.ntmps88
  go_wp2_with fail
  go_loopw [0, 6] (fun n i wr => ∃ k : Nat, k ≤ 20 ∧ n = .int .u64 (if k = 0 then (d : Int) else 0) ∧ i = .int .i64 (19 - (k : Int)) ∧ Hid (wr.heap[w.heap.size]? = some (.cells (dgRow d k) 125 (0, 0))) ∧ Hid (Below w.heap.size w wr)) (fun _ i _ => (intOf i + 1).toNat)
  case atStart =>
    refine ⟨0, by omega, rfl, rfl, Lib.hid ?_, Lib.hid ?_⟩
    · rw [dgRow_zero]; exact heap_alloc_new w _
    · exact (Below.refl _ _).alloc (Nat.le_refl _) _
  case round =>
    obtain ⟨k, hk, rfl, rfl, HR, HB⟩ := hrel
    generalize hN : (if k = 0 then (d : Int) else 0) = N at *
    have hN0 : 0 ≤ N := by split at hN <;> omega
    have hN1 : N < 10 := by split at hN <;> omega
    have hm : N.tmod 10 = N := Int.tmod_eq_of_lt hN0 hN1
    have hq : N.tdiv 10 = 0 := Int.tdiv_eq_zero_of_lt hN0 hN1
    have HN := Lib.hid hN
    clear hN
    have HE := Lib.hid (Eq.refl w.heap.size)
    generalize hb : w.heap.size = b at HR HE ⊢
    have HB0 := Lib.hid hb
    clear hb
    have hfz := fun j => frozen_of_row _ _ j _ _ HR.out
    have hcl := fun j (hj : j < 20) => (cell_of_row _ _ j _ _ (0, 0) HR.out).trans (dgRow_get d k j hj)
    by_cases hlt : k < 20
    · have hfz1 := hfz (19 - k)
      have hcl1 := hcl (19 - k) (by omega)
      have hi : ((19 : Int) - (k : Int)).toNat = 19 - k := by omega
      clear hfz hcl
      go_wp2_with fail
      refine ⟨⟨k + 1, by omega, ?_, by simp only [Value.int.injEq, true_and]; push_cast; omega, Lib.hid ?_, Lib.hid ?_⟩, by simp only [intOf]; omega⟩
      · rw [if_neg (Nat.succ_ne_zero k)]
      · rw [row_setCell _ _ _ _ _ _ _ HR.out, dgRow_set d k hlt _ (by have := HN.out; by_cases h0 : k = 0 <;> simp [h0] at this ⊢ <;> omega)]
      · exact (HB0.out ▸ HB.out).setCell (p := ⟨b, 19 - k, none⟩) (Nat.le_refl _) _
    · have hke : k = 20 := by omega
      subst hke
      have HL := Lib.hid (digs_cells d hd c HC.out wr b hcl)
      go_wp2_with fail
      have HV := run_convert_bytes_back (P := Tryz.prog) wr 106 9 5 ⟨b, 2, none⟩ 18 [48, 48, 48, 48, 48, 48, 48, 48, 48, 48, 48, 48, 48, 48, 48, 48, 48, c] und_bytes und_u8 und_str HL.out
      rw [show ([48, 48, 48, 48, 48, 48, 48, 48, 48, 48, 48, 48, 48, 48, 48, 48, 48, c] : List UInt8).length = 18 from rfl] at HV
      rw [HV]
      simp only [Result.andThen]
      rw [Oper.upon_value]
      go_wp2_with fail
      go_ret
      exact ⟨rfl, HB.out⟩
end Go.Proofs.YthlpfhenaakljaaGreatDoor

namespace Go.Proofs.YthlpfhenaakljaaGreatDoor
open Go.RowKit

def slen : Value → Nat
  | .slice _ n _ => n
  | _ => 0

theorem info_str : (Tryz.prog.info? 9).map (fun i => (i.zero, i.size, i.bytes)) = some (some (.string ⟨#[]⟩), 1, 16) := by kernel_rfl
theorem und_strs : Tryz.prog.underlying 101 = some (.slice 9) := by kernel_rfl

theorem lit_news_s (w : World) (z : ByteArray) : ∀ (j : Nat) (u : Value), [Value.string z][j]? = some u → (w.alloc (.cells #[.string z] 9)).cell? (Addr.add ⟨w.heap.size, 0, none⟩ j) = some u := by
  intro j u h
  have hj : j < 1 := by have := (List.getElem?_eq_some_iff.1 h).1; simpa using this
  obtain rfl : j = 0 := by omega
  rw [Addr.add_lit]
  have hc := cell_of_row _ _ 0 _ _ (0, 0) (heap_alloc_new w (.cells #[.string z] 9))
  simp at h
  subst h
  exact hc
theorem lit_one_s (z : ByteArray) : ∀ u ∈ [Value.string z], u.oneCell' = true := by
  intro u hu
  rw [List.mem_singleton.1 hu]; rfl

theorem trim_digs (c : UInt8) (hc : c ≠ 48) : Lib.trimLeftB (⟨#[48, 48, 48, 48, 48, 48, 48, 48, 48, 48, 48, 48, 48, 48, 48, 48, 48, c]⟩ : ByteArray).data.toList 48 = [c] := by
  simp [Lib.trimLeftB, hc]

set_option maxHeartbeats 2000000 in
set_option maxRecDepth 100000 in
theorem dshow_calls (v : Value) (d : Nat) (h0 : 0 < d) (hd : d < 10) (c : UInt8) (hc : c = UInt8.ofNat (48 + d)) (w : World) (hv : Nv w v [d]) :
    Calls Tryz.prog 58 #[v] w (fun e w' => e = .returned (.string ⟨#[c]⟩) ∧ Below w.heap.size w w') := by
  obtain ⟨i0, hi, hz0, hz1, hz2⟩ := info_parts info_str
  have HC := Lib.hid hc
  have HC48 := Lib.hid (show c ≠ 48 by rw [hc]; intro h; have := congrArg UInt8.toNat h; simp at this; omega)
  clear hc
  have HT := Lib.hid (trim_calls v [d] w hv (by simp))
  rw [Dg.db_dv (by decide) [d] hv.1 (Or.inr (by simp; omega))] at HT
  have HDB := Lib.hid (show Dg.db B64 d = [d] by
    have := Dg.db_dv (b := B64) (by decide) [d] hv.1 (Or.inr (by simp; omega))
    rwa [show Dg.dv B64 [d] = d from by simp [Dg.dv]] at this)
  go_enter Tryz.func58, Tryz.ntmps58
  go_wp2_with fail
  refine HT.out.mono ?_
  rintro e w1 ⟨v1, rfl, hn1, hb1⟩
  have HN := Lib.hid hn1.nv
  have HB1 := Lib.hid hb1
  clear hn1 hb1
  go_wp2_with fail
  go_loopw [3, 4] (fun u o wr => Hid (Below w.heap.size w wr) ∧ ((u = .slice none 0 0 ∧ Hid (Nv wr o [d])) ∨ (Hid (Nv wr o []) ∧ ∃ g cap cur, u = .slice (some ⟨g, 0, none⟩) 1 cap ∧ w.heap.size ≤ g ∧ Hid (wr.heap[g]? = some (.cells cur 9 (0, 0))) ∧ Hid (cur[0]? = some (.string ⟨#[48, 48, 48, 48, 48, 48, 48, 48, 48, 48, 48, 48, 48, 48, 48, 48, 48, c]⟩))))) (fun _ o _ => slen o)
  case atStart => exact ⟨HB1, .inl ⟨rfl, HN⟩⟩
  case round =>
    obtain ⟨HB, ⟨rfl, HV⟩ | ⟨HV, g, cap, cur, rfl, hg, HG, HS⟩⟩ := hrel
    · obtain ⟨_, ao, co, rfl, _, _⟩ := id HV.out
      have HA := Lib.hid (HV.out.below ((Below.refl wr.heap.size wr).alloc (Nat.le_refl _) (.cells #[.int .u64 ((1000000000000000000 : Nat) : Int)] 43)))
      have CD := Lib.hid (div_calls _ (.slice (some ⟨wr.heap.size, 0, none⟩) 1 1) [d] [1000000000000000000] _ HA.out (Nv.lit wr (by decide)) (by simp) (by simp))
      rw [show Dg.dv B64 [1000000000000000000] = 1000000000000000000 from rfl, show Dg.dv B64 [d] = d from by simp [Dg.dv]] at CD
      go_wp2_with fail
      refine CD.out.mono ?_
      rintro e w2 ⟨hb2, _, hq⟩
      obtain ⟨q, r, rfl, hnq, hnr⟩ := hq (by decide)
      rw [Nat.div_eq_of_lt (by omega)] at hnq
      rw [Nat.mod_eq_of_lt (by omega), HDB.out] at hnr
      have HB2 := Lib.hid (show Below w.heap.size w w2 from
        (HB.out.alloc HB.out.size (.cells #[.int .u64 ((1000000000000000000 : Nat) : Int)] 43)).trans (hb2.mono (HB.out.alloc HB.out.size (.cells #[.int .u64 ((1000000000000000000 : Nat) : Int)] 43)).size))
      have HQ := Lib.hid hnq.nv
      have CS := Lib.hid (small_calls r [d] w2 hnr.nv (by simp))
      rw [show Dg.dv B64 [d] = d from by simp [Dg.dv], if_pos (by unfold B64; omega), show decide (d < B64) = true from by simp only [decide_eq_true_eq]; unfold B64; omega] at CS
      clear hb2 hq hnq hnr
      have CG := Lib.hid (ddig_calls d hd c HC.out w2)
      go_wp2_with fail
      refine CS.out.mono ?_
      rintro e w3 ⟨rfl, rfl⟩
      go_wp2_with fail
      refine CG.out.mono ?_
      rintro e w3 ⟨rfl, hb3⟩
      have HB3 := Lib.hid (show Below w.heap.size w w3 from HB2.out.trans (hb3.mono HB2.out.size))
      have HQ3 := Lib.hid (HQ.out.below hb3)
      clear hb3
      have HO := Lib.hid (World.ownsRow_nil (w3.alloc (.cells #[.string ⟨#[48, 48, 48, 48, 48, 48, 48, 48, 48, 48, 48, 48, 48, 48, 48, 48, 48, c]⟩] 9)) w.heap.size 9 1)
      go_wp2_with (at_builtin; refine wpList_append_own _ rfl _ _ 101 rfl w.heap.size 9 i0 (.string ⟨#[]⟩) 1 16 und_strs hi hz0 hz1 hz2 rfl (by decide) _ 0 [] rfl HO.out ⟨w3.heap.size, 0, none⟩ 1 1 [.string ⟨#[48, 48, 48, 48, 48, 48, 48, 48, 48, 48, 48, 48, 48, 48, 48, 48, 48, c]⟩] rfl rfl ?c1 ?c2 ?c3 ?c4 ?c5 ?_)
      case c1 => exact lit_news_s _ _
      case c2 => exact lit_one_s _
      case c3 => unfold maxLen; omega
      case c4 => omega
      case c5 => exact (HB3.out.alloc HB3.out.size _).size
      intro v' w4 hown hg4 _
      have HB4 := Lib.hid (Below.grown (HB3.out.alloc HB3.out.size _) hg4 (HB3.out.alloc HB3.out.size _).size (fun k hk => by cases hk))
      have HQ4 := Lib.hid (HQ3.out.below (Below.grown ((Below.refl w3.heap.size w3).alloc (Nat.le_refl _) _) hg4 ((Below.refl w3.heap.size w3).alloc (Nat.le_refl _) _).size (fun k hk => by cases hk)))
      obtain ⟨g, cap, cur, rfl, hg, hgg, hcc⟩ : ∃ g cap cur, v' = .slice (some ⟨g, 0, none⟩) 1 cap ∧ w.heap.size ≤ g ∧ w4.heap[g]? = some (.cells cur 9 (0, 0)) ∧ cur[0]? = some (.string ⟨#[48, 48, 48, 48, 48, 48, 48, 48, 48, 48, 48, 48, 48, 48, 48, 48, 48, c]⟩) := by
        rcases hown.2 with ⟨_, hz⟩ | ⟨g, cap, cur, hv', hg, hgg, _, _, _, ht⟩
        · exact absurd hz (by decide)
        · refine ⟨g, cap, cur, hv', hg, hgg, ?_⟩
          have h1 := congrArg (fun (l : List Value) => l[0]?) ht
          simpa using h1
      have HGG := Lib.hid hgg
      have HCC := Lib.hid hcc
      clear hown hg4 hgg hcc
      obtain ⟨_, aq, cq, rfl, _, _⟩ := id HQ4.out
      go_wp2_with fail
      go_roundw
      case rel => exact ⟨HB4, .inr ⟨HQ4, _, _, _, rfl, hg, HGG, HCC⟩⟩
      case measure => simp [slen, Dg.db_zero]
    · obtain ⟨_, ao, co, hcn, _, _⟩ := id HV.out
      rw [List.length_nil] at hcn
      subst hcn
      obtain ⟨wx, hwx⟩ : ∃ wx, wx = wr := ⟨_, rfl⟩
      subst hwx
      have HGL := Lib.hid (heap_lt HG.out)
      have HFB := Lib.hid (Lib.fresh_isBuilder 108 5 wx)
      have HBa := Lib.hid ((Below.refl wx.heap.size wx).alloc (Nat.le_refl _) (.cells #[.pointer none, .slice none 0 0] 108))
      go_wp2_with fail
      go_loopw [11] (fun i wi => Hid (Below wx.heap.size wx wi) ∧ ((i = .int .i64 0 ∧ Hid (Lib.IsBuilder 108 5 wx.heap.size wx.heap.size [] wi)) ∨ (i = .int .i64 (-1) ∧ Hid (Lib.IsBuilder 108 5 wx.heap.size wx.heap.size (Lib.strCells ⟨#[48, 48, 48, 48, 48, 48, 48, 48, 48, 48, 48, 48, 48, 48, 48, 48, 48, c]⟩) wi)))) (fun i _ => (intOf i + 1).toNat)
      case atStart => exact ⟨HBa, .inl ⟨rfl, HFB⟩⟩
      case round =>
        obtain ⟨HBi, ⟨rfl, HI⟩ | ⟨rfl, HI⟩⟩ := hrel
        · have hgc := cell_of_row _ _ 0 _ _ (0, 0) ((HBi.out.block g HGL.out).trans HG.out)
          rw [HS.out] at hgc
          have CW := Lib.hid (wstr_calls wx.heap.size wx.heap.size [] ⟨#[48, 48, 48, 48, 48, 48, 48, 48, 48, 48, 48, 48, 48, 48, 48, 48, 48, c]⟩ wr HI.out (by show 0 + 18 ≤ _; omega) HBi.out.size)
          go_wp2_with fail
          refine CW.out.mono ?_
          rintro e w3 ⟨rfl, hb, hbb⟩
          have HB3 := Lib.hid (HBi.out.trans hbb)
          have HI3 := Lib.hid (show Lib.IsBuilder 108 5 wx.heap.size wx.heap.size (Lib.strCells ⟨#[48, 48, 48, 48, 48, 48, 48, 48, 48, 48, 48, 48, 48, 48, 48, 48, 48, c]⟩) w3 from .inr (by simpa using hb))
          clear hb hbb hgc
          go_wp2_with fail
          go_roundw
          case rel => exact ⟨HB3, .inr ⟨rfl, HI3⟩⟩
          case measure => simp [intOf]
        · have CB := Lib.hid (Tryz.Builder_String wx.heap.size wx.heap.size [48, 48, 48, 48, 48, 48, 48, 48, 48, 48, 48, 48, 48, 48, 48, 48, 48, c] wr HI.out (by simp))
          have CT := fun w => Tryz.strings_TrimLeft_one ⟨#[48, 48, 48, 48, 48, 48, 48, 48, 48, 48, 48, 48, 48, 48, 48, 48, 48, c]⟩ 48 (by decide) w
          rw [trim_digs c HC48.out] at CT
          have HCT := Lib.hid CT
          clear CT
          go_wp2_with fail
          refine CB.out.mono ?_
          rintro e w3 ⟨rfl, hb⟩
          have HB3 := Lib.hid (show Below w.heap.size w w3 from HB.out.trans ((HBi.out.trans hb).mono HB.out.size))
          clear hb
          go_wp2_with fail
          refine (HCT.out w3).mono ?_
          rintro e w4 ⟨rfl, rfl⟩
          go_wp2_with fail
          go_ret
          exact ⟨rfl, HB3.out⟩
end Go.Proofs.YthlpfhenaakljaaGreatDoor

namespace Go.Proofs.YthlpfhenaakljaaGreatDoor
open Go.RowKit

def wtext (s : Bool) (c : UInt8) : ByteArray := if s then ⟨#[45, c]⟩ else ⟨#[c]⟩

theorem sgn_t {n : Nat} (h0 : 0 < n) : (sgn true n).sign = -1 := by
  show (-(n : Int)).sign = -1
  exact Int.sign_eq_neg_one_of_neg (by omega)
theorem sgn_f {n : Nat} (h0 : 0 < n) : (sgn false n).sign = 1 := by
  show (n : Int).sign = 1
  exact Int.sign_eq_one_of_pos (by omega)

set_option maxHeartbeats 1600000 in
set_option maxRecDepth 100000 in
theorem wshow_calls (s : Bool) (m : Value) (n : Nat) (h0 : 0 < n) (hn : n < 10) (c : UInt8) (hc : c = UInt8.ofNat (48 + n)) (w : World) (hm : Nv w m [n]) :
    Calls Tryz.prog 57 #[.agg #[.bool s, m]] w (fun e w' => e = .returned (.string (wtext s c)) ∧ Below w.heap.size w w') := by
  obtain ⟨_, a, cp, rfl, _, _⟩ := id hm
  have HD := Lib.hid (fun wx (hb : Below w.heap.size w wx) => dshow_calls _ n h0 hn c hc wx (hm.below hb))
  have HG := Lib.hid (fun wx (hb : Below w.heap.size w wx) => wsign_calls s _ _ wx (hm.below hb) (by simp))
  rw [show Dg.dv B64 [n] = n from by simp [Dg.dv]] at HG
  have ga := heap_alloc_new w (.cells #[.bool s, .slice a 1 cp] 25)
  have HBA := Lib.hid ((Below.refl w.heap.size w).alloc (Nat.le_refl _) (.cells #[.bool s, .slice a 1 cp] 25))
  have y1 := cell_of_row _ _ 1 _ _ (0, 0) ga
  clear hm hc ga
  go_enter Tryz.func57, Tryz.ntmps57
  go_wp2_with fail
  refine (HD.out _ HBA.out).mono ?_
  rintro e w1 ⟨rfl, hb⟩
  have hg1 := kept_block hb
  have HB1 := Lib.hid (show Below w.heap.size w w1 from HBA.out.trans (hb.mono HBA.out.size))
  have x0 := cell_of_row _ _ 0 _ _ (0, 0) hg1
  have x1 := cell_of_row _ _ 1 _ _ (0, 0) hg1
  clear hb y1
  have HW := HG.out _ HB1.out
  cases s
  · rw [sgn_f h0] at HW
    go_wp2_with fail
    refine HW.mono ?_
    rintro e w2 ⟨rfl, hb⟩
    have HB2 := Lib.hid (show Below w.heap.size w w2 from HB1.out.trans (hb.mono HB1.out.size))
    clear hb
    go_wp2_with fail
    go_ret
    exact ⟨rfl, HB2.out⟩
  · rw [sgn_t h0] at HW
    go_wp2_with fail
    refine HW.mono ?_
    rintro e w2 ⟨rfl, hb⟩
    have HB2 := Lib.hid (show Below w.heap.size w w2 from HB1.out.trans (hb.mono HB1.out.size))
    clear hb
    go_wp2_with fail
    go_ret
    exact ⟨rfl, HB2.out⟩
end Go.Proofs.YthlpfhenaakljaaGreatDoor

namespace Go.Proofs.YthlpfhenaakljaaGreatDoor
open Go.RowKit

def rtext (s : Bool) (c : UInt8) (d : Nat) (e : UInt8) : ByteArray := if d = 1 then wtext s c else wtext s c ++ ⟨#[47, e]⟩

set_option maxHeartbeats 3200000 in
set_option maxRecDepth 100000 in
theorem rshow_calls (z : Int) (d : Nat) (m1 m2 : Value) (h0 : 0 < z.natAbs) (hn : z.natAbs < 10) (hd0 : 0 < d) (hd : d < 10) (hz : nrm z d = z) (hzd : nrd z d = d) (s : Bool) (hs : decide (z < 0) = s)
    (c ec : UInt8) (hc : c = UInt8.ofNat (48 + z.natAbs)) (hec : ec = UInt8.ofNat (48 + d)) (w : World) (h1 : Nv w m1 (Dg.db B64 z.natAbs)) (h2 : Nv w m2 (Dg.db B64 d)) :
    Calls Tryz.prog 29 #[.agg #[.bool s, m1, m2]] w (fun e w' => e = .returned (.string (rtext s c d ec)) ∧ Below w.heap.size w w') := by
  have b1 : Dg.db B64 z.natAbs = [z.natAbs] := by
    have := Dg.db_dv (b := B64) (by decide) [z.natAbs] (fun x hx => by rw [List.mem_singleton.1 hx]; unfold B64; omega) (Or.inr (by simp; omega))
    rwa [show Dg.dv B64 [z.natAbs] = z.natAbs from by simp [Dg.dv]] at this
  have b2 : Dg.db B64 d = [d] := by
    have := Dg.db_dv (b := B64) (by decide) [d] (fun x hx => by rw [List.mem_singleton.1 hx]; unfold B64; omega) (Or.inr (by simp; omega))
    rwa [show Dg.dv B64 [d] = d from by simp [Dg.dv]] at this
  have CC := Lib.hid (fun wx (hb : Below w.heap.size w wx) => count_calls s m1 m2 _ _ wx (h1.below hb) (h2.below hb) (by rw [b1]; simp) (by rw [b2]; simp))
  rw [Dg.dv_db (by decide), Dg.dv_db (by decide)] at CC
  have e1 : redZ s z.natAbs d = z := by rw [← hs]; exact hz
  have e2 : redD z.natAbs d = d := hzd
  rw [e1, e2] at CC
  have SW := Lib.hid (fun wx v (hv : Nv wx v [z.natAbs]) => wshow_calls s v z.natAbs h0 hn c hc wx hv)
  have SD := Lib.hid (fun wx v (hv : Nv wx v [d]) => dshow_calls v d hd0 hd ec hec wx hv)
  have EQ := Lib.hid (fun wx v1 v2 (hv : Nv wx v1 (Dg.db B64 d)) (hu : Nv wx v2 (Dg.db B64 1)) => equal_calls v1 v2 d 1 wx hv hu (by rw [b2]; simp) (by rw [db_one]; simp))
  obtain ⟨_, a1, c1, rfl, _, _⟩ := id h1
  obtain ⟨_, a2, c2, rfl, _, _⟩ := id h2
  have HE1 := Lib.hid b1
  have HE2 := Lib.hid b2
  have HS := Lib.hid hs
  clear h1 h2 hz hzd e1 e2 hc hec b1 b2 hs
  generalize (Dg.db B64 z.natAbs).length = n1 at *
  generalize (Dg.db B64 d).length = n2 at *
  go_enter Tryz.func29, Tryz.ntmps29
  go_upto_region 1 with fail
  obtain ⟨g1, hB0, hsz⟩ := one_block w (.cells #[.bool s, .slice a1 n1 c1, .slice a2 n2 c2] 27)
  generalize w.alloc (.cells #[.bool s, .slice a1 n1 c1, .slice a2 n2 c2] 27) = W at *
  have HM := Lib.hid (CC.out _ hB0)
  have HG := Lib.hid g1
  have HB0 := Lib.hid (show Bel w W from hB0)
  have x0 := cell_of_row _ _ 0 _ _ (0, 0) g1
  have x1 := cell_of_row _ _ 1 _ _ (0, 0) g1
  have x2 := cell_of_row _ _ 2 _ _ (0, 0) g1
  clear g1 hB0 hsz CC
  generalize hj : w.heap.size = j1 at *
  have HJ := Lib.hid hj
  clear hj
  go_wp2_with fail
  refine HM.out.mono ?_
  rintro e w2 ⟨v, rfl, ⟨vn, vd, rfl, hn1, hdn⟩, hb⟩
  have HB2 := Lib.hid (show Bel w w2 from HB0.out.trans (hb.mono HB0.out.size))
  have hg2 := block_of hb HG.out
  have t0 := frozen_of_row _ _ 0 _ _ hg2
  have t1 := frozen_of_row _ _ 1 _ _ hg2
  have t2 := frozen_of_row _ _ 2 _ _ hg2
  have v0 := cell_of_row _ _ 0 _ _ (0, 0) hg2
  have v1 := cell_of_row _ _ 1 _ _ (0, 0) hg2
  have v2 := cell_of_row _ _ 2 _ _ (0, 0) hg2
  have HLT := Lib.hid (heap_lt HG.out)
  have hge : w.heap.size ≤ j1 := by rw [HJ.out]; exact Nat.le_refl _
  rw [HS.out]
  obtain ⟨a3, c3, rfl⟩ : ∃ a c, vn = .slice a 1 c := by have := hn1.slice; rw [HE1.out] at this; exact this
  obtain ⟨a4, c4, rfl⟩ : ∃ a c, vd = .slice a 1 c := by have := hdn.slice; rw [HE2.out] at this; exact this
  rw [HE1.out] at hn1
  have HF := Lib.hid (filled3 HB2.out hge (.bool s) (.slice a3 1 c3) (.slice a4 1 c4))
  have HG5 := Lib.hid (stored3 hg2 (.bool s) (.slice a3 1 c3) (.slice a4 1 c4))
  have HB5 := Lib.hid (show Bel w (((w2.setCell ⟨j1, 0, none⟩ (.bool s)).setCell ⟨j1, 1, none⟩ (.slice a3 1 c3)).setCell ⟨j1, 2, none⟩ (.slice a4 1 c4)) from HF.out.1)
  have HN5 := Lib.hid (HF.out.2 _ _ _ HLT.out hn1).nv
  have HD5 := Lib.hid (HF.out.2 _ _ _ HLT.out hdn).nv
  clear hg2 HF hb hn1 hdn x0 x1 x2
  go_upto_region 2 with fail
  generalize ((w2.setCell ⟨j1, 0, none⟩ (.bool s)).setCell ⟨j1, 1, none⟩ (.slice a3 1 c3)).setCell ⟨j1, 2, none⟩ (.slice a4 1 c4) = W5 at *
  have x0 := cell_of_row _ _ 0 _ _ (0, 0) HG5.out
  have x1 := cell_of_row _ _ 1 _ _ (0, 0) HG5.out
  clear t0 t1 t2 v0 v1 v2
  go_wp2_with fail
  refine (SW.out _ _ HN5.out).mono ?_
  rintro e w6 ⟨rfl, hb⟩
  have HB6 := Lib.hid (show Bel w w6 from HB5.out.trans (hb.mono HB5.out.size))
  have hg6 := block_of hb HG5.out
  have HG6 := Lib.hid hg6
  have HD6 := Lib.hid (HD5.out.below hb)
  have x2 := cell_of_row _ _ 2 _ _ (0, 0) hg6
  clear hb x0 x1 hg6
  go_wp2_with fail
  go_region_held3 (fun w' => w'.cell? ⟨j1, 2, none⟩ = some (.slice a4 1 c4)) (go_keep)
    (first
      | (go_at_call 49
         refine Calls.mono (one_of_calls _) ?_
         rintro e w7 ⟨v, rfl, hno, hb⟩
         have HO7 := Lib.hid hno.nv
         have hg7 := block_of hb (show w6.drew.heap[j1]? = _ from HG6.out)
         have HG7 := Lib.hid hg7
         have HB7 := Lib.hid (show Bel w w7 from HB6.out.drew.trans (hb.mono HB6.out.drew.size))
         have HD7 := Lib.hid (Nv.below (HD6.out.below (Below.refl _ _).drew) hb)
         have x2 := cell_of_row _ _ 2 _ _ (0, 0) hg7
         clear hno hb hg7)
      | (go_at_call 53
         refine Calls.mono (EQ.out _ _ _ HD7.out HO7.out) ?_
         rintro e w8 ⟨rfl, rfl⟩))
  clear x2
  have x2 := cell_of_row _ _ 2 _ _ (0, 0) HG7.out
  by_cases hd1 : d = 1
  · have hdec : decide (d = 1) = true := by simp [hd1]
    have hrt : rtext s c d ec = wtext s c := by simp [rtext, hd1]
    rw [hdec]
    have HRT := Lib.hid hrt
    have HX := Lib.hid hd1
    clear hd1 hdec hrt
    go_wp2_with fail
    go_ret
    exact ⟨by rw [HRT.out]; rfl, HB7.out⟩
  · have hdec : decide (d = 1) = false := by simp [hd1]
    have hrt : rtext s c d ec = wtext s c ++ ⟨#[47, ec]⟩ := by simp [rtext, hd1]
    rw [hdec]
    have HRT := Lib.hid hrt
    have HX := Lib.hid hd1
    clear hd1 hdec hrt
    go_wp2_with fail
    refine (SD.out _ _ (by have := HD7.out; rwa [HE2.out] at this)).mono ?_
    rintro e w8 ⟨rfl, hb⟩
    have HB8 := Lib.hid (show Bel w w8 from HB7.out.trans (hb.mono HB7.out.size))
    clear hb
    cases s
    · have HT := Lib.hid (show wtext false c = ⟨#[c]⟩ from rfl)
      rw [HT.out]
      go_wp2_with fail
      go_ret
      exact ⟨by rw [HRT.out, HT.out]; rfl, HB8.out⟩
    · have HT := Lib.hid (show wtext true c = ⟨#[45, c]⟩ from rfl)
      rw [HT.out]
      go_wp2_with fail
      go_ret
      exact ⟨by rw [HRT.out, HT.out]; rfl, HB8.out⟩
end Go.Proofs.YthlpfhenaakljaaGreatDoor

namespace Go.Proofs.YthlpfhenaakljaaGreatDoor
open Go.RowKit

theorem size_alloc (w : World) (o : Obj) : (w.alloc o).heap.size = w.heap.size + 1 := by
  show (w.heap.push o).size = _
  simp

/-- A value is a fraction. -/
def Fv (w : World) (v : Value) (z : Int) (d : Nat) : Prop :=
  ∃ a1 c1 a2 c2, v = .agg #[.bool (decide (z < 0)), .slice a1 (Dg.db B64 z.natAbs).length c1, .slice a2 (Dg.db B64 d).length c2] ∧
    Nv w (.slice a1 (Dg.db B64 z.natAbs).length c1) (Dg.db B64 z.natAbs) ∧ Nv w (.slice a2 (Dg.db B64 d).length c2) (Dg.db B64 d)

theorem Fv.below {w w' : World} {v : Value} {z : Int} {d : Nat} (h : Fv w v z d) (hb : Below w.heap.size w w') : Fv w' v z d := by
  obtain ⟨a1, c1, a2, c2, hq, h1, h2⟩ := h
  exact ⟨a1, c1, a2, c2, hq, h1.below hb, h2.below hb⟩

theorem RR.fv {z : Int} {d B : Nat} {w : World} {v : Value} (h : RR z d B w v) : Fv w v z d := by
  obtain ⟨vn, vd, rfl, h1, h2⟩ := h
  obtain ⟨a1, c1, rfl⟩ := h1.slice
  obtain ⟨a2, c2, rfl⟩ := h2.slice
  exact ⟨a1, c1, a2, c2, rfl, h1.nv, h2.nv⟩

/-- A fraction is told. -/
def RetF (z : Int) (d : Nat) (w : World) (e : Ending) (w' : World) : Prop := ∃ v, e = .returned v ∧ Fv w' v z d ∧ Below w.heap.size w w'
/-- .. beside no error. -/
def RetFE (z : Int) (d : Nat) (w : World) (e : Ending) (w' : World) : Prop := ∃ v, e = .returned (.tuple #[v, .int .i64 0]) ∧ Fv w' v z d ∧ Below w.heap.size w w'
/-- .. an error. -/
def RetErr (er : Int) (w : World) (e : Ending) (w' : World) : Prop := e = .returned (.tuple #[.agg #[.bool false, .slice none 0 0, .slice none 0 0], .int .i64 er]) ∧ Below w.heap.size w w'

theorem RetR.f {z : Int} {d : Nat} {w : World} {e : Ending} {w' : World} (h : RetR z d w e w') : RetF z d w e w' := by
  obtain ⟨v, rfl, hr, hb⟩ := h
  exact ⟨v, rfl, hr.fv, hb⟩

theorem mk_lit (w : World) (n d p q : Nat) (hn : n < B64) (hd : d < B64) (h0 : d ≠ 0) (hp : n / Nat.gcd n d = p) (hq : d / Nat.gcd n d = q) :
    Calls Tryz.prog 23 #[.agg #[.bool false, .slice (some ⟨w.heap.size, 0, none⟩) 1 1], .slice (some ⟨w.heap.size + 1, 0, none⟩) 1 1] ((w.alloc (.cells #[.int .u64 (n : Int)] 43)).alloc (.cells #[.int .u64 (d : Int)] 43))
      (RetFE p q w) := by
  have hB1 : Below w.heap.size w (w.alloc (.cells #[.int .u64 (n : Int)] 43)) := (Below.refl _ _).alloc (Nat.le_refl _) _
  have hB2 : Below w.heap.size w ((w.alloc (.cells #[.int .u64 (n : Int)] 43)).alloc (.cells #[.int .u64 (d : Int)] 43)) := hB1.alloc hB1.size _
  have n1 := (Nv.lit w hn).alloc (.cells #[.int .u64 (d : Int)] 43)
  have n2 := Nv.lit (w.alloc (.cells #[.int .u64 (n : Int)] 43)) hd
  rw [size_alloc] at n2
  refine (rmake_calls false _ _ _ _ _ n1 n2 (by simp) (by simp)).mono ?_
  rintro e w1 ⟨hb, _, hr⟩
  rw [show Dg.dv B64 [n] = n from by simp [Dg.dv], show Dg.dv B64 [d] = d from by simp [Dg.dv], hp, hq] at hr
  obtain ⟨v, rfl, hr2⟩ := hr h0
  exact ⟨v, rfl, hr2.fv, hB2.trans (hb.mono hB2.size)⟩

theorem mk_none (w : World) (d : Nat) (hd : d < B64) (h0 : d ≠ 0) :
    Calls Tryz.prog 23 #[.agg #[.bool true, .slice none 0 0], .slice (some ⟨w.heap.size, 0, none⟩) 1 1] (w.alloc (.cells #[.int .u64 (d : Int)] 43))
      (RetFE 0 1 w) := by
  have hB1 : Below w.heap.size w (w.alloc (.cells #[.int .u64 (d : Int)] 43)) := (Below.refl _ _).alloc (Nat.le_refl _) _
  refine (rmake_calls true _ _ [] _ _ (No.nil 0 _).nv (Nv.lit w hd) (by simp) (by simp)).mono ?_
  rintro e w1 ⟨hb, _, hr⟩
  rw [show Dg.dv B64 [] = 0 from rfl, show Dg.dv B64 [d] = d from by simp [Dg.dv]] at hr
  obtain ⟨v, rfl, hr2⟩ := hr h0
  rw [show sgn true (0 / Nat.gcd 0 d) = 0 from by simp [sgn], show d / Nat.gcd 0 d = 1 from by simp [Nat.div_self (Nat.pos_of_ne_zero h0)]] at hr2
  exact ⟨v, rfl, hr2.fv, hB1.trans (hb.mono hB1.size)⟩

theorem mk_bad (w : World) (n : Nat) (hn : n < B64) :
    Calls Tryz.prog 23 #[.agg #[.bool false, .slice (some ⟨w.heap.size, 0, none⟩) 1 1], .slice none 0 0] (w.alloc (.cells #[.int .u64 (n : Int)] 43))
      (RetErr 7 w) := by
  have hB1 : Below w.heap.size w (w.alloc (.cells #[.int .u64 (n : Int)] 43)) := (Below.refl _ _).alloc (Nat.le_refl _) _
  refine (rmake_calls false _ _ _ [] _ (Nv.lit w hn) (No.nil 0 _).nv (by simp) (by simp)).mono ?_
  rintro e w1 ⟨hb, hr, _⟩
  exact ⟨hr rfl, hB1.trans (hb.mono hB1.size)⟩

theorem over_f (n d : Int) (z : Int) (k : Nat) (w : World) (n1 : -9223372036854775808 ≤ n) (n2 : n ≤ 9223372036854775807) (d1 : -9223372036854775808 ≤ d) (d2 : d ≤ 9223372036854775807) (h0 : d ≠ 0)
    (hz : nrm (ovZ n d) d.natAbs = z) (hk : nrd (ovZ n d) d.natAbs = k) : Calls Tryz.prog 24 #[.int .i64 n, .int .i64 d] w (RetF z k w) := by
  subst hz hk
  exact (lover_calls n d w n1 n2 d1 d2 h0).mono fun e w' h => h.f

theorem of_f (n : Int) (w : World) (h1 : -9223372036854775808 ≤ n) (h2 : n ≤ 9223372036854775807) : Calls Tryz.prog 25 #[.int .i64 n] w (RetF n 1 w) :=
  (rof_calls n w h1 h2).mono fun _ _ h => h.f

theorem half_f (w : World) : Calls Tryz.prog 27 #[.int .i64 3] w (RetFE 1 8 w) :=
  (half_calls 3 3 rfl w (by decide)).mono fun e w' ⟨v, h, hr, hb⟩ => ⟨v, h, hr.fv, hb⟩

theorem read_p (w : World) : Calls Tryz.prog 26 #[.string ⟨#[50, 47, 52]⟩] w (RetErr 3 w) := rread_p_calls w
theorem read_m (w : World) : Calls Tryz.prog 26 #[.string ⟨#[45, 49, 47, 50]⟩] w (RetFE (-1) 2 w) :=
  (rread_m_calls w).mono fun _ _ ⟨v, h, hr, hb⟩ => ⟨v, h, hr.fv, hb⟩

theorem add_f (v1 v2 : Value) (w : World) (h1 : Fv w v1 1 2) (h2 : Fv w v2 1 3) : Calls Tryz.prog 8 #[v1, v2] w (RetF 5 6 w) := by
  obtain ⟨a1, c1, a2, c2, rfl, n1, n2⟩ := h1
  obtain ⟨a3, c3, a4, c4, rfl, n3, n4⟩ := h2
  refine (radd_calls false false _ _ _ _ _ _ _ _ 1 1 2 3 w n1 n2 n3 n4 (by decide) (by decide) (by decide) (by decide) (by decide) (by decide) (by decide) (by decide)).mono fun e w' h => ?_
  have h := h.f
  rwa [show nrm (1 * ((3 : Nat) : Int) + 1 * ((2 : Nat) : Int)) (2 * 3) = 5 from by decide, show nrd (1 * ((3 : Nat) : Int) + 1 * ((2 : Nat) : Int)) (2 * 3) = 6 from by decide] at h

theorem quo0_f (v1 v2 : Value) (w : World) (h1 : Fv w v1 1 2) (h2 : Fv w v2 0 1) : Calls Tryz.prog 7 #[v1, v2] w (RetErr 7 w) := by
  obtain ⟨a1, c1, a2, c2, rfl, n1, n2⟩ := h1
  obtain ⟨a3, c3, a4, c4, rfl, n3, n4⟩ := h2
  refine (rquo0_calls false false _ _ _ _ _ _ _ _ 1 0 2 1 w n1 n2 n3 n4 (by decide) (by decide) (by decide) (by decide) (by decide) (by decide) (by decide) (by decide) rfl).mono fun e w' h => ?_
  exact ⟨h.2.1 rfl, h.1⟩

theorem pow_f (v1 : Value) (w : World) (h1 : Fv w v1 (-1) 2) : Calls Tryz.prog 28 #[v1, .int .i64 3] w (RetFE (-1) 8 w) := by
  obtain ⟨a1, c1, a2, c2, rfl, n1, n2⟩ := h1
  refine (rpow_calls true _ _ _ _ (-1) 2 3 3 rfl w n1 n2 (by decide) (by decide) (by decide) (by decide) (by decide) (by decide) (by decide) (by decide) (by decide) (by decide) (by decide) (by decide) (by decide)).mono fun e w' ⟨v, h, hr, hb⟩ => ?_
  rw [show nrm (sgn (decide ((-1 : Int) < 0)) ((-1 : Int).natAbs ^ 3)) (2 ^ 3) = -1 from by decide, show nrd (sgn (decide ((-1 : Int) < 0)) ((-1 : Int).natAbs ^ 3)) (2 ^ 3) = 8 from by decide] at hr
  exact ⟨v, h, hr.fv, hb⟩

theorem is_f (v1 v2 : Value) (z : Int) (d : Nat) (w : World) (h1 : Fv w v1 z d) (h2 : Fv w v2 z d) (l1 : (Dg.db B64 z.natAbs).length ≤ 1048576) (l2 : (Dg.db B64 d).length ≤ 1048576) :
    Calls Tryz.prog 13 #[v1, v2] w (fun e w' => e = .returned (.bool true) ∧ Below w.heap.size w w') := by
  obtain ⟨a1, c1, a2, c2, rfl, n1, n2⟩ := h1
  obtain ⟨a3, c3, a4, c4, rfl, n3, n4⟩ := h2
  exact is6_calls _ _ _ _ _ _ _ w n1 n2 n3 n4 l1 l2

theorem show_f (v : Value) (z : Int) (d : Nat) (t : ByteArray) (w : World) (h : Fv w v z d) (h0 : 0 < z.natAbs) (hn : z.natAbs < 10) (hd0 : 0 < d) (hd : d < 10) (hz : nrm z d = z) (hzd : nrd z d = d)
    (ht : rtext (decide (z < 0)) (UInt8.ofNat (48 + z.natAbs)) d (UInt8.ofNat (48 + d)) = t) :
    Calls Tryz.prog 29 #[v] w (fun e w' => e = .returned (.string t) ∧ Below w.heap.size w w') := by
  obtain ⟨a1, c1, a2, c2, rfl, n1, n2⟩ := h
  rw [← ht]
  exact rshow_calls z d _ _ h0 hn hd0 hd hz hzd _ rfl _ _ rfl rfl w n1 n2

end Go.Proofs.YthlpfhenaakljaaGreatDoor

namespace Go.Proofs.YthlpfhenaakljaaGreatDoor
open Go

section
variable {P : Program} {ops : Array Oper} {Q : Exit → Act → World → Prop} {md : Region.Mode}

/-- What a frame's slot holds. -/
def evA (a : Act) (t : Tmp) : Value := a.tmps.getD t undef

/-- An operand's value. -/
def evalOf (r : Tmp → Value) : Operand → Value
  | .tmp t => r t
  | .const v => v
  | .global g => .pointer (some ⟨g, 0, none⟩)
  | .func f => .func (.func f) #[] #[]

theorem eval_evA (a : Act) : a.eval = evalOf (evA a) := by
  funext x
  cases x <;> rfl

/-- A slot is written. -/
def updD (r : Tmp → Value) (d : Option Tmp) (v : Value) : Tmp → Value := fun t => if d = some t then v else r t

theorem updD_same (r : Tmp → Value) (t : Tmp) (v : Value) : updD r (some t) v t = v := by simp [updD]
theorem updD_other (r : Tmp → Value) {d : Option Tmp} {t : Tmp} (v : Value) (h : d ≠ some t) : updD r d v t = r t := by simp [updD, h]

theorem evA_put (a : Act) (d : Option Tmp) (v : Value) (h : ∀ t, d = some t → t < a.tmps.size) : evA (a.put d v) = updD (evA a) d v := by
  funext t
  cases d with
  | none => simp [updD, Act.put]
  | some k =>
    by_cases hk : k = t
    · subst hk
      have := h k rfl
      simp [evA, updD, Act.put, this]
    · have hk' : ¬ (some k = some t) := fun h => hk (Option.some.inj h)
      simp [evA, updD, Act.put, Array.getElem?_setIfInBounds_ne hk, hk']

/-- What an operation brings, with no frame in sight. -/
def Brings (P : Program) (s : Sem Next) (w : World) (N : Value → World → Prop) : Prop :=
  match s.run P w with
  | .ok (.value v) w' => N v w'
  | .ok .skip w' => N undef w'
  | .ok (.enter f args) w' => Calls P f args w' fun e w'' => ∃ v, e = .returned v ∧ N v w''
  | _ => False

theorem Brings.wp {o : Oper} {a : Act} {w : World} {N : Value → World → Prop} {K : Act → World → Prop} (hK : ∀ v w', N v w' → K (a.put o.dst v) w') (h : Brings P (execOp a.eval o) w N) :
    o.wp P a w K Q := by
  unfold Oper.wp
  unfold Brings at h
  generalize (execOp a.eval o).run P w = r at *
  cases r with
  | ok n w' =>
    cases n <;> simp only [Oper.upon] at h ⊢
    case value v => exact hK v _ h
    case skip => exact hK _ _ h
    case enter f args =>
      refine Calls.mono h fun e w'' he => ?_
      obtain ⟨v, rfl, hn⟩ := he
      exact hK v _ hn
  | halt x w' => exact h.elim

theorem Brings.mono {s : Sem Next} {w : World} {N N' : Value → World → Prop} (hN : ∀ v w', N v w' → N' v w') (h : Brings P s w N) : Brings P s w N' := by
  unfold Brings at *
  generalize s.run P w = r at *
  cases r with
  | ok n w' =>
    cases n <;> simp only at h ⊢
    case value v => exact hN v _ h
    case skip => exact hN _ _ h
    case enter f args => exact Calls.mono h fun e w'' ⟨v, he, hn⟩ => ⟨v, he, hN _ _ hn⟩
  | halt x w' => exact h.elim

/-- The Bool of a value. -/
def asB : Value → Option Bool
  | .bool b => some b
  | _ => none

/-- What an operation's guard looks at. -/
def guardOf (ops : Array Oper) (o : Oper) : Option (Option Tmp × Bool) := o.guard.map fun (g, want) => ((ops[g]?).bind (·.dst), want)

def wantsOf (r : Tmp → Value) : Option (Option Tmp × Bool) → Bool
  | none => true
  | some (t, want) => (t.bind fun t => asB (r t)) == some want

theorem wanted_of (a : Act) (o : Oper) : Region.wanted o (yielded ops a.tmps) = wantsOf (evA a) (guardOf ops o) := by
  unfold Region.wanted guardOf wantsOf
  cases o.guard with
  | none => rfl
  | some gw =>
    obtain ⟨g, want⟩ := gw
    simp only [Option.map_some]
    congr 1
    unfold yielded
    cases (ops[g]?).bind (·.dst) with
    | none => rfl
    | some t =>
      simp only [Option.bind_some, evA, Array.getD_eq_getD_getElem?]
      cases a.tmps[t]? with
      | none => rfl
      | some v => cases v <;> rfl

/-- The state amid the region. -/
structure Jn (T : Nat → (Tmp → Value) → World → Prop) (G : (Tmp → Value) → World → Prop) (ds : List Tmp) (a0 : Act) (listed : Array Bool) (a : Act) (w : World) : Prop where
  defers : a.defers = a0.defers
  size : a.tmps.size = a0.tmps.size
  out : ∀ t, t ∉ ds → a.tmps[t]? = a0.tmps[t]?
  g : G (evA a) w
  t : ∀ i, listed.getD i false = true → T i (evA a) w

/-- Number j does not wait for number i. -/
def NoEdge (ops : Array Oper) (md : Region.Mode) (j i : Nat) : Prop := ∀ o, ops[j]? = some o → ∀ e ∈ o.after, Region.binds md e = true → e.on ≠ i

/-- What one operation of the region is to show. -/
def FreeOp (P : Program) (ops : Array Oper) (md : Region.Mode) (T : Nat → (Tmp → Value) → World → Prop) (G : (Tmp → Value) → World → Prop) (ds : List Tmp) (r0 : Tmp → Value) (i : Nat) (o : Oper) (g : Option (Option Tmp × Bool)) : Prop :=
  ∀ r w, (∀ t, t ∉ ds → r t = r0 t) → G r w → (∀ e ∈ o.after, Region.binds md e = true → T e.on r w) →
    (wantsOf r g = true → Brings P (execOp (evalOf r) o) w fun v w' => G (updD r o.dst v) w' ∧ T i (updD r o.dst v) w' ∧ ∀ j, j ≠ i → NoEdge ops md j i → T j r w → T j (updD r o.dst v) w') ∧
    (wantsOf r g = false → G (updD r o.dst undef) w ∧ T i (updD r o.dst undef) w ∧ ∀ j, j ≠ i → NoEdge ops md j i → T j r w → T j (updD r o.dst undef) w)

theorem all_listed (hup : ∀ i o, ops[i]? = some o → ∀ e ∈ o.after, Region.binds md e = true → e.on < i) {listed : Array Bool} (hs : listed.size = ops.size) (hr : Region.ready md ops listed = []) :
    ∀ i, i < ops.size → listed.getD i false = true := by
  intro i
  induction i using Nat.strongRecOn with
  | ind i ih =>
    intro hi
    cases hl : listed.getD i false with
    | true => rfl
    | false =>
      have hm : i ∈ Region.ready md ops listed := by
        refine mem_ready.2 ⟨?_, ops[i], Array.getElem?_eq_getElem hi, fun e he hb => ?_⟩
        · have hi' : i < listed.size := by omega
          simp [hi'] at hl ⊢
          exact hl
        · have := hup i _ (Array.getElem?_eq_getElem hi) e he hb
          exact ih e.on this (by omega)
      rw [hr] at hm
      cases hm

theorem wpAny_free {T : Nat → (Tmp → Value) → World → Prop} {G : (Tmp → Value) → World → Prop} {ds : List Tmp} {a0 : Act}
    (hup : ∀ i o, ops[i]? = some o → ∀ e ∈ o.after, Region.binds md e = true → e.on < i)
    (hd : ∀ (i : Nat) (o : Oper) (t : Tmp), ops[i]? = some o → o.dst = some t → t < a0.tmps.size ∧ t ∈ ds)
    (step : ∀ i o, ops[i]? = some o → FreeOp P ops md T G ds (evA a0) i o (guardOf ops o))
    (hend : ∀ listed a w, Jn T G ds a0 listed a w → (∀ i, i < ops.size → listed.getD i false = true) → Q .normal a w) :
    ∀ fuel listed a w, listed.size = ops.size → listed.toList.countP (!·) ≤ fuel → (∀ j o, ops[j]? = some o → listed.getD j false = true → ∀ e ∈ o.after, Region.binds md e = true → listed.getD e.on false = true) → Jn T G ds a0 listed a w → wpAny P md ops Q fuel listed a w := by
  intro fuel
  induction fuel with
  | zero =>
    intro listed a w hs hc hcl hj
    have hall : ∀ i, i < ops.size → listed.getD i false = true := by
      intro i hi
      have h0 := List.countP_eq_zero.1 (Nat.le_zero.1 hc)
      have hi' : i < listed.size := by omega
      have := h0 listed[i] (Array.getElem_mem_toList hi')
      simp [hi']
      simpa using this
    refine ⟨?_, hend _ _ _ hj hall⟩
    cases hr : Region.ready md ops listed with
    | nil => rfl
    | cons x xs =>
      have hx : x ∈ Region.ready md ops listed := by rw [hr]; simp
      obtain ⟨h1, o, ho, _⟩ := mem_ready.1 hx
      have hlt := (Array.getElem?_eq_some_iff.1 ho).1
      have h2 := hall x hlt
      have hx' : x < listed.size := by omega
      simp [hx'] at h1 h2
      rw [h1] at h2
      cases h2
  | succ fuel ih =>
    intro listed a w hs hc hcl hj
    refine ⟨fun hr => hend _ _ _ hj (all_listed hup hs hr), fun i hi => ?_⟩
    obtain ⟨h1, o, ho, hall⟩ := mem_ready.1 hi
    have hlt := (Array.getElem?_eq_some_iff.1 ho).1
    have hi' : i < listed.size := by omega
    have hcnt : (listed.setIfInBounds i true).toList.countP (!·) ≤ fuel := by
      rw [Array.toList_setIfInBounds]
      have hl' : i < listed.toList.length := by simpa using hi'
      have hu : listed.toList[i] = false := by simp [hi'] at h1; simpa using h1
      have hpos : 0 < listed.toList.countP (!·) := List.countP_pos_iff.2 ⟨listed[i], Array.getElem_mem_toList hi', by simp [hi'] at h1; simpa using h1⟩
      generalize listed.toList = L at *
      rw [List.countP_set hl', hu]
      simp only [Bool.not_false, Bool.not_true, if_true, Bool.false_eq_true, if_false]
      omega
    have hcl' : ∀ j oj, ops[j]? = some oj → (listed.setIfInBounds i true).getD j false = true → ∀ e ∈ oj.after, Region.binds md e = true → (listed.setIfInBounds i true).getD e.on false = true := by
      intro j oj hoj hl e he hb
      by_cases hji : j = i
      · subst hji
        rw [ho] at hoj
        obtain rfl := Option.some.inj hoj
        exact getD_set_true (hall e he hb)
      · exact getD_set_true (hcl j oj hoj (by rwa [getD_set_ne false (Ne.symm hji)] at hl) e he hb)
    have nxt : ∀ v w', G (updD (evA a) o.dst v) w' ∧ T i (updD (evA a) o.dst v) w' ∧ (∀ j, j ≠ i → NoEdge ops md j i → T j (evA a) w → T j (updD (evA a) o.dst v) w') →
        wpAny P md ops Q fuel (listed.setIfInBounds i true) (a.put o.dst v) w' := by
      intro v w' ⟨hg, ht, hk⟩
      have he := evA_put a o.dst v (fun t h => by rw [hj.size]; exact (hd i o t ho h).1)
      refine ih _ _ _ (by simpa using hs) hcnt hcl' ⟨?_, ?_, ?_, by rw [he]; exact hg, fun j hl => ?_⟩
      · cases o.dst <;> exact hj.defers
      · cases o.dst <;> simp [Act.put, hj.size]
      · intro t ht
        cases hdst : o.dst with
        | none => exact hj.out t ht
        | some k =>
          have hne : k ≠ t := fun h => ht (h ▸ (hd i o k ho hdst).2)
          simp only [Act.put]
          rw [Array.getElem?_setIfInBounds_ne hne]
          exact hj.out t ht
      · rw [he]
        by_cases hji : j = i
        · subst hji; exact ht
        · have hl' : listed.getD j false = true := by rwa [getD_set_ne false (Ne.symm hji)] at hl
          refine hk j hji (fun oj hoj e he hb hon => ?_) (hj.t j hl')
          have h2 := hcl j oj hoj hl' e he hb
          rw [hon] at h2
          simp [hi'] at h1 h2
          rw [h1] at h2
          cases h2
    have hstep := step i o ho (evA a) w (fun t ht => by unfold evA; rw [Array.getD_eq_getD_getElem?, Array.getD_eq_getD_getElem?, hj.out t ht]) hj.g
      (fun e he hb => hj.t e.on (hall e he hb))
    unfold wpOp
    simp only [ho, wanted_of]
    split
    · rename_i hw
      exact .inl (Brings.wp nxt (by rw [eval_evA]; exact hstep.1 hw))
    · rename_i hw
      exact nxt _ _ (hstep.2 (by simpa using hw))

/-- Slots are written, one after the other. -/
def puts (r : Tmp → Value) : List Tmp → Act → Act
  | [], a => a
  | t :: ds, a => puts r ds (a.put (some t) (r t))

theorem puts_spec (r : Tmp → Value) : ∀ (ds : List Tmp) (a : Act), (puts r ds a).defers = a.defers ∧ (puts r ds a).tmps.size = a.tmps.size ∧
    ∀ t, (puts r ds a).tmps[t]? = if t ∈ ds ∧ t < a.tmps.size then some (r t) else a.tmps[t]? := by
  intro ds
  induction ds with
  | nil => intro a; exact ⟨rfl, rfl, fun t => by simp [puts]⟩
  | cons k ds ih =>
    intro a
    obtain ⟨h1, h2, h3⟩ := ih (a.put (some k) (r k))
    have hsz : (a.put (some k) (r k)).tmps.size = a.tmps.size := by simp [Act.put]
    refine ⟨h1, h2.trans hsz, fun t => ?_⟩
    show (puts r ds (a.put (some k) (r k))).tmps[t]? = _
    rw [h3 t, hsz]
    simp only [Act.put]
    by_cases hk : k = t
    · subst hk
      by_cases hlt : k < a.tmps.size <;> by_cases hm : k ∈ ds <;> simp [hlt, hm]
    · have hk' : ¬ t = k := fun h => hk h.symm
      simp [Array.getElem?_setIfInBounds_ne hk, hk']

theorem puts_defers (r : Tmp → Value) (ds : List Tmp) (a : Act) : (puts r ds a).defers = a.defers := (puts_spec r ds a).1
theorem puts_read (r : Tmp → Value) {ds : List Tmp} {a : Act} {t : Tmp} (h : t ∈ ds) (ht : t < a.tmps.size) : (puts r ds a).tmps.getD t undef = r t := by
  rw [Array.getD_eq_getD_getElem?, (puts_spec r ds a).2.2 t, if_pos ⟨h, ht⟩]; rfl
theorem puts_else (r : Tmp → Value) {ds : List Tmp} {a : Act} {t : Tmp} (h : t ∉ ds) : (puts r ds a).tmps.getD t undef = a.tmps.getD t undef := by
  rw [Array.getD_eq_getD_getElem?, (puts_spec r ds a).2.2 t, if_neg (fun x => h x.1), Array.getD_eq_getD_getElem?]

theorem puts_eq {r : Tmp → Value} {ds : List Tmp} {a a0 : Act} (h1 : a.defers = a0.defers) (h2 : a.tmps.size = a0.tmps.size) (h3 : ∀ t, t ∉ ds → a.tmps[t]? = a0.tmps[t]?) (hr : r = evA a) :
    a = puts r ds a0 := by
  obtain ⟨p1, p2, p3⟩ := puts_spec r ds a0
  obtain ⟨tm, df⟩ := a
  generalize hp : puts r ds a0 = b at *
  obtain ⟨tm', df'⟩ := b
  simp only at *
  have : tm = tm' := by
    apply Array.ext (by rw [h2, p2])
    intro i hi hi'
    have h := p3 i
    have hb : i < a0.tmps.size := by omega
    rw [Array.getElem?_eq_getElem hi'] at h
    split at h
    · rename_i hc
      have := Option.some.inj h
      rw [this, hr]
      simp [evA, hi]
    · rename_i hc
      have hni : i ∉ ds := fun hm => hc ⟨hm, hb⟩
      have := h3 i hni
      rw [Array.getElem?_eq_getElem hi] at this
      rw [← h] at this
      exact Option.some.inj this
  rw [this, h1, p1]

/-- What the operations of the region are to show, one after the other. -/
def FreeOps (P : Program) (ops : Array Oper) (md : Region.Mode) (T : Nat → (Tmp → Value) → World → Prop) (G : (Tmp → Value) → World → Prop) (ds : List Tmp) (r0 : Tmp → Value) : Nat → List Oper → List (Option (Option Tmp × Bool)) → Prop
  | i, o :: l, g :: gs => FreeOp P ops md T G ds r0 i o g ∧ FreeOps P ops md T G ds r0 (i + 1) l gs
  | _, [], _ => True
  | _, _ :: _, [] => False

theorem freeOps_get {T : Nat → (Tmp → Value) → World → Prop} {G : (Tmp → Value) → World → Prop} {ds : List Tmp} {r0 : Tmp → Value} (f : Oper → Option (Option Tmp × Bool)) :
    ∀ (l : List Oper) (k : Nat), FreeOps P ops md T G ds r0 k l (l.map f) → ∀ i o, l[i]? = some o → FreeOp P ops md T G ds r0 (k + i) o (f o) := by
  intro l
  induction l with
  | nil => intro k _ i o h; simp at h
  | cons x l ih =>
    intro k h i o hi
    obtain ⟨h1, h2⟩ := h
    cases i with
    | zero => simp at hi; subst hi; exact h1
    | succ i =>
      have := ih (k + 1) h2 i o (by simpa using hi)
      rwa [show k + 1 + i = k + (i + 1) by omega] at this

def Region.upB (md : Region.Mode) : Nat → List Oper → Bool
  | _, [] => true
  | i, o :: l => (o.after.all fun e => !Region.binds md e || decide (e.on < i)) && Region.upB md (i + 1) l

theorem upB_spec : ∀ (l : List Oper) (k : Nat), Region.upB md k l = true → ∀ i o, l[i]? = some o → ∀ e ∈ o.after, Region.binds md e = true → e.on < k + i := by
  intro l
  induction l with
  | nil => intro k _ i o h; simp at h
  | cons x l ih =>
    intro k h i o hi e he hb
    simp only [Region.upB, Bool.and_eq_true] at h
    obtain ⟨h1, h2⟩ := h
    cases i with
    | zero =>
      simp at hi; subst hi
      have := Array.all_eq_true_iff_forall_mem.1 h1 e he
      simpa [hb] using this
    | succ i =>
      have := ih (k + 1) h2 i o (by simpa using hi) e he hb
      omega

/-- The region's form: each waits for earlier ones alone; the slots that it writes are those of the list. -/
def Region.freeB (l : List Oper) (ds : List Tmp) (n : Nat) : Bool :=
  Region.upB .any 0 l && l.all fun o => match o.dst with | none => true | some t => decide (t < n) && ds.contains t

theorem wp_region_free {id : Nat} {a0 : Act} {w : World} {l : List Oper} (T : Nat → (Tmp → Value) → World → Prop) (G : (Tmp → Value) → World → Prop) (ds : List Tmp) (gs : List (Option (Option Tmp × Bool)))
    (hm : P.follows .mixedOrders = true) (hB : Region.freeB l ds a0.tmps.size = true) (hg : gs = l.map (guardOf l.toArray)) (h0 : G (evA a0) w.drew)
    (steps : FreeOps P l.toArray .any T G ds (evA a0) 0 l gs)
    (hend : ∀ r w', (∀ t, t ∉ ds → r t = evA a0 t) → G r w' → (∀ i, i < l.length → T i r w') → Q .normal (puts r ds a0) w') : (Code.region id l.toArray true).wp P Q a0 w := by
  simp only [Region.freeB, Bool.and_eq_true, List.all_eq_true] at hB
  obtain ⟨hu, hd⟩ := hB
  refine wp_region_any hm ?_
  refine wpAny_free (T := T) (G := G) (ds := ds) (a0 := a0) ?_ ?_ ?_ ?_ _ _ _ _ (by simp) ?_ (fun j o _ h => by rw [getD_replicate_false] at h; cases h) ⟨rfl, rfl, fun _ _ => rfl, h0, fun i h => ?_⟩
  · intro i o hi e he hb
    have := upB_spec l 0 hu i o (by simpa using hi) e he hb
    omega
  · intro i o t hi ht
    have := hd o (List.mem_of_getElem? (by simpa using hi))
    simp only [ht, Bool.and_eq_true, decide_eq_true_eq] at this
    exact ⟨this.1, by simpa using this.2⟩
  · intro i o hi
    subst hg
    have := freeOps_get (guardOf l.toArray) l 0 steps i o (by simpa using hi)
    rwa [Nat.zero_add] at this
  · intro listed a w' hj hall
    rw [puts_eq hj.defers hj.size hj.out rfl]
    exact hend _ _ (fun t ht => by unfold evA; rw [Array.getD_eq_getD_getElem?, Array.getD_eq_getD_getElem?, hj.out t ht]) hj.g (fun i hi => hj.t i (hall i (by simpa using hi)))
  · have := List.countP_le_length (p := (!·)) (l := (Array.replicate l.toArray.size false).toList)
    simpa using this
  · rw [getD_replicate_false] at h; cases h

end
end Go.Proofs.YthlpfhenaakljaaGreatDoor

namespace Go.Proofs.YthlpfhenaakljaaGreatDoor
open Go

section
variable {P : Program} {Q : Exit → Act → World → Prop}

/-- What is said of a slot that is written. -/
def DstS (S : Tmp → World → Value → Prop) : Option Tmp → World → Value → Prop
  | some d, w, v => S d w v
  | none, _, _ => True

/-- What is said of some slots. -/
def AllT (S : Tmp → World → Value → Prop) (r : Tmp → Value) (w : World) : List Tmp → Prop
  | [] => True
  | t :: ts => S t w (r t) ∧ AllT S r w ts

theorem allT_of {S : Tmp → World → Value → Prop} {r : Tmp → Value} {w : World} : ∀ {ts : List Tmp}, (∀ t ∈ ts, S t w (r t)) → AllT S r w ts
  | [], _ => trivial
  | t :: _, h => ⟨h t (by simp), allT_of fun t' ht => h t' (by simp [ht])⟩

def PlainOp (P : Program) (S : Tmp → World → Value → Prop) (I : World → Prop) (R : World → World → Prop) (ds : List Tmp) (r0 : Tmp → Value) (o : Oper) (ts : List Tmp) (g : Option (Option Tmp × Bool)) : Prop :=
  ∀ r w, (∀ t, t ∉ ds → r t = r0 t) → I w → AllT S r w ts →
    (wantsOf r g = true ∧ Brings P (execOp (evalOf r) o) w fun v w' => I w' ∧ R w w' ∧ DstS S o.dst w' v) ∨ (wantsOf r g = false ∧ DstS S o.dst w undef)

def PlainOps (P : Program) (S : Tmp → World → Value → Prop) (I : World → Prop) (R : World → World → Prop) (ds : List Tmp) (r0 : Tmp → Value) : List Oper → List (List Tmp × Option (Option Tmp × Bool)) → Prop
  | o :: l, g :: gs => PlainOp P S I R ds r0 o g.1 g.2 ∧ PlainOps P S I R ds r0 l gs
  | [], _ => True
  | _ :: _, [] => False

/-- The slots of the list are of operations that this one waits for. -/
def waitsB (l : List Oper) (o : Oper) (ts : List Tmp) : Bool := ts.all fun t => o.after.any fun e => Region.binds .any e && ((l[e.on]?).map fun x => decide (x.dst = some t)) == some true

def waitsAll (l : List Oper) : List Oper → List (List Tmp × Option (Option Tmp × Bool)) → Bool
  | o :: os, g :: gs => waitsB l o g.1 && waitsAll l os gs
  | [], _ => true
  | _ :: _, [] => false

theorem plain_free {S : Tmp → World → Value → Prop} {I : World → Prop} {R : World → World → Prop} {ds : List Tmp} {r0 : Tmp → Value} {l : List Oper} (stab : ∀ t w w' v, S t w v → R w w' → S t w' v) (hrefl : ∀ w, R w w) :
    ∀ (os : List Oper) (gs : List (List Tmp × Option (Option Tmp × Bool))) (k : Nat), (∀ j o, os[j]? = some o → l[k + j]? = some o) → waitsAll l os gs = true → PlainOps P S I R ds r0 os gs →
      FreeOps P l.toArray .any (fun i r w => ∀ o d, l[i]? = some o → o.dst = some d → S d w (r d)) (fun _ w => I w) ds r0 k os (gs.map (·.2)) := by
  intro os
  induction os with
  | nil => intro gs k _ _ _; cases gs <;> trivial
  | cons o os ih =>
    intro gs k hl hw hp
    cases gs with
    | nil => exact hp.elim
    | cons g gs =>
      obtain ⟨h1, h2⟩ := hp
      simp only [waitsAll, Bool.and_eq_true] at hw
      refine ⟨?_, ih gs (k + 1) (fun j x hj => by have := hl (j + 1) x (by simpa using hj); rwa [show k + (j + 1) = k + 1 + j by omega] at this) hw.2 h2⟩
      have ho : l[k]? = some o := by simpa using hl 0 o (by simp)
      intro r w ho' hI hT
      have hA : AllT S r w g.1 := allT_of fun t ht => by
        have h3 := List.all_eq_true.1 hw.1 t ht
        obtain ⟨e, he, hb⟩ := Array.any_eq_true'.1 h3
        simp only [Bool.and_eq_true, beq_iff_eq] at hb
        cases hx : l[e.on]? with
        | none => rw [hx] at hb; simp at hb
        | some x =>
          rw [hx] at hb
          simp at hb
          exact hT e he hb.1 x t hx hb.2
      have hstep := h1 r w ho' hI hA
      have key : ∀ v w', I w' → R w w' → DstS S o.dst w' v → (I w' ∧ (∀ x d, l[k]? = some x → x.dst = some d → S d w' (updD r o.dst v d)) ∧
          ∀ j, j ≠ k → NoEdge l.toArray .any j k → (∀ x d, l[j]? = some x → x.dst = some d → S d w (r d)) → ∀ x d, l[j]? = some x → x.dst = some d → S d w' (updD r o.dst v d)) := by
        intro v w' hi hr hd
        refine ⟨hi, fun x d hx hxd => ?_, fun j _ _ hj x d hx hxd => ?_⟩
        · rw [ho] at hx
          obtain rfl := Option.some.inj hx
          rw [hxd] at hd ⊢
          rw [updD_same]
          exact hd
        · by_cases he : o.dst = some d
          · rw [he] at hd ⊢
            rw [updD_same]
            exact hd
          · rw [updD_other _ _ he]
            exact stab _ _ _ _ (hj x d hx hxd) hr
      refine ⟨fun hg => ?_, fun hg => ?_⟩
      · rcases hstep with ⟨_, hb⟩ | ⟨hn, _⟩
        · refine Brings.mono ?_ hb
          exact fun v w' ⟨hi, hr, hd⟩ => key v w' hi hr hd
        · rw [hg] at hn; cases hn
      · rcases hstep with ⟨hn, _⟩ | ⟨_, hd⟩
        · rw [hg] at hn; cases hn
        · exact key _ _ hI (hrefl w) hd

theorem wp_region_plain {id : Nat} {a0 : Act} {w : World} {l : List Oper} (S : Tmp → World → Value → Prop) (I : World → Prop) (R : World → World → Prop) (ds : List Tmp) (gs : List (List Tmp × Option (Option Tmp × Bool)))
    (hm : P.follows .mixedOrders = true) (hB : Region.freeB l ds a0.tmps.size = true) (hg : gs.map (·.2) = l.map (guardOf l.toArray)) (hw : waitsAll l l gs = true)
    (hds : (ds.all fun t => l.any fun o => decide (o.dst = some t)) = true) (stab : ∀ t w w' v, S t w v → R w w' → S t w' v) (hrefl : ∀ w, R w w) (h0 : I w.drew)
    (steps : PlainOps P S I R ds (evA a0) l gs)
    (hend : ∀ r w', I w' → (∀ t, t ∈ ds → S t w' (r t)) → Q .normal (puts r ds a0) w') : (Code.region id l.toArray true).wp P Q a0 w := by
  refine wp_region_free (fun i r w => ∀ o d, l[i]? = some o → o.dst = some d → S d w (r d)) (fun _ w => I w) ds (gs.map (·.2)) hm hB hg h0 (plain_free stab hrefl l gs 0 (fun j o h => by rwa [Nat.zero_add]) hw steps) ?_
  intro r w' _ hI hT
  refine hend r w' hI fun t ht => ?_
  obtain ⟨o, ho, hd⟩ := List.any_eq_true.1 (List.all_eq_true.1 hds t ht)
  obtain ⟨i, hi, rfl⟩ := List.getElem_of_mem ho
  exact hT i hi _ t (List.getElem?_eq_getElem hi) (by simpa using hd)

/-! ### What single operations bring -/

theorem brings_ok {s : Sem Next} {w w' : World} {v : Value} {N : Value → World → Prop} (h : s.run P w = .ok (.value v) w') (hN : N v w') : Brings P s w N := by
  unfold Brings; rw [h]; exact hN

theorem brings_move {r : Tmp → Value} {d : Option Tmp} {x : Operand} {ty : TypeId} {pos : String} {after : Array Edge} {g : Option (Nat × Bool)} {w : World} {N : Value → World → Prop} {v : Value} (hv : evalOf r x = v) (hN : N v w) :
    Brings P (execOp (evalOf r) ⟨d, .move x, ty, pos, after, g⟩) w N := by subst hv; exact hN
theorem brings_assign {r : Tmp → Value} {d : Option Tmp} {x : Operand} {ty : TypeId} {pos : String} {after : Array Edge} {g : Option (Nat × Bool)} {w : World} {N : Value → World → Prop} {v : Value} (hv : evalOf r x = v) (hN : N v w) :
    Brings P (execOp (evalOf r) ⟨d, .assign x, ty, pos, after, g⟩) w N := by subst hv; exact hN
theorem brings_pick {r : Tmp → Value} {d : Option Tmp} {c x y : Operand} {ty : TypeId} {pos : String} {after : Array Edge} {g : Option (Nat × Bool)} {w : World} {N : Value → World → Prop} {b : Bool} (hc : evalOf r c = .bool b) (hN : N (if b then evalOf r x else evalOf r y) w) :
    Brings P (execOp (evalOf r) ⟨d, .pick c x y, ty, pos, after, g⟩) w N := by
  refine brings_ok (v := if b then evalOf r x else evalOf r y) (w' := w) ?_ hN
  simp only [execOp, hc]
  cases b <;> rfl
theorem brings_bin {r : Tmp → Value} {d : Option Tmp} {k : BinOp} {x y : Operand} {t1 t2 ty : TypeId} {pos : String} {after : Array Edge} {g : Option (Nat × Bool)} {w : World} {N : Value → World → Prop} {v1 v2 v : Value} (h1 : evalOf r x = v1) (h2 : evalOf r y = v2)
    (hv : (do eqGuard k t1 x y v1 v2; binOp k t1 v1 v2 : Sem Value).run P w = .ok v w) (hN : N v w) : Brings P (execOp (evalOf r) ⟨d, .binOp k t1 x y t2, ty, pos, after, g⟩) w N := by
  refine brings_ok (v := v) (w' := w) ?_ hN
  simp only [execOp, h1, h2]
  rw [Sem.run_bind, hv]
  rfl
theorem brings_call {r : Tmp → Value} {d : Option Tmp} {f : FuncId} {xs : List Operand} {ats : Array TypeId} {ty : TypeId} {pos : String} {after : Array Edge} {g : Option (Nat × Bool)} {w : World} {N : Value → World → Prop} (args : List Value)
    (hf : ∀ args w, (callFunc f args).run P w = .ok (.enter f args) w) (ha : xs.map (evalOf r) = args) (h : Calls P f args.toArray w fun e w' => ∃ v, e = .returned v ∧ N v w') :
    Brings P (execOp (evalOf r) ⟨d, .call { callee := .value (.func f), args := xs.toArray, argTypes := ats }, ty, pos, after, g⟩) w N := by
  subst ha
  rw [← List.map_toArray] at h
  unfold Brings
  rw [show execOp (evalOf r) ⟨d, .call { callee := .value (.func f), args := xs.toArray, argTypes := ats }, ty, pos, after, g⟩ = callFunc f (#[] ++ xs.toArray.map (evalOf r) ++ #[]) from rfl, hf, Array.empty_append, Array.append_empty]
  exact h
end
end Go.Proofs.YthlpfhenaakljaaGreatDoor

namespace Go.Proofs.YthlpfhenaakljaaGreatDoor
open Go.RowKit

/-- A block that holds a fraction. -/
def Sl (w : World) (q : Nat) (z : Int) (d : Nat) : Prop :=
  ∃ x y u, w.heap[q]? = some (.cells #[x, y, u] 27 (0, 0)) ∧ Fv w (.agg #[x, y, u]) z d

theorem Sl.below {w w' : World} {q : Nat} {z : Int} {d : Nat} (h : Sl w q z d) (hb : Below w.heap.size w w') : Sl w' q z d := by
  obtain ⟨x, y, u, hq, hf⟩ := h
  exact ⟨x, y, u, block_of hb hq, hf.below hb⟩

/-- What is said of a slot. -/
inductive Sp where
  | val (v : Value)
  | fv (z : Int) (d : Nat)
  | lit (n : Nat)
  | any

def Sp.holds : Sp → World → Value → Prop
  | .val u, _, v => v = u
  | .fv z d, w, v => Fv w v z d
  | .lit n, w, v => ∃ b, v = .slice (some ⟨b, 0, none⟩) 1 1 ∧ Nv w v [n]
  | .any, _, _ => True

abbrev Sp.tt : Sp := .val (.bool true)

theorem Sp.stab {s : Sp} {w w' : World} {v : Value} (h : s.holds w v) (hb : Below w.heap.size w w') : s.holds w' v := by
  cases s with
  | val u => exact h
  | fv z d => exact h.below hb
  | lit n => obtain ⟨b, e, hn⟩ := h; exact ⟨b, e, hn.below hb⟩
  | any => trivial

/-- The slots' table. -/
def spOf (L : List (Nat × Sp)) (t : Tmp) (w : World) (v : Value) : Prop := ((L.lookup t).getD .any).holds w v

theorem wants_b {r : Tmp → Value} {t : Tmp} {b : Bool} (h : r t = .bool b) : wantsOf r (some (some t, b)) = true := by simp [wantsOf, asB, h]

theorem callF {f : FuncId} {args : Array Value} {w : World} {I : World → Prop} {z : Int} {d : Nat} (h : Calls Tryz.prog f args w (RetF z d w)) (hI : ∀ w', Below w.heap.size w w' → I w') :
    Calls Tryz.prog f args w fun e w' => ∃ v, e = .returned v ∧ I w' ∧ Below w.heap.size w w' ∧ Fv w' v z d :=
  h.mono fun _ _ ⟨v, he, hf, hb⟩ => ⟨v, he, hI _ hb, hb, hf⟩

theorem callV {f : FuncId} {args : Array Value} {w : World} {I : World → Prop} {u : Value} (h : Calls Tryz.prog f args w (fun e w' => e = .returned u ∧ Below w.heap.size w w')) (hI : ∀ w', Below w.heap.size w w' → I w') :
    Calls Tryz.prog f args w fun e w' => ∃ v, e = .returned v ∧ I w' ∧ Below w.heap.size w w' ∧ v = u :=
  h.mono fun _ _ ⟨he, hb⟩ => ⟨u, he, hI _ hb, hb, rfl⟩

theorem brings_load_sl {r : Tmp → Value} {d : Option Tmp} {x : Operand} {ty : TypeId} {pos : String} {after : Array Edge} {g : Option (Nat × Bool)} {w : World} {N : Value → World → Prop} {q : Nat} {z : Int} {dd : Nat}
    (hx : evalOf r x = .pointer (some ⟨q, 0, none⟩)) (h : Sl w q z dd) (hN : ∀ v, Fv w v z dd → N v w) : Brings Tryz.prog (execOp (evalOf r) ⟨d, .load 27 x, ty, pos, after, g⟩) w N := by
  obtain ⟨a, b, c, hq, hf⟩ := h
  have hu := und_Rat
  cases hd : Tryz.prog.underlying 27 with
  | none => rw [hd] at hu; cases hu
  | some dd' =>
    rw [hd] at hu
    refine brings_ok (v := .agg #[a, b, c]) (w' := w) ?_ (hN _ hf)
    simp only [execOp, hx, Instr.loadAt, Instr.sureAddr, Sem.run_bind, Sem.run_pure, Result.andThen_ok, run_loadVar_row w q 27 27 #[a, b, c] (0, 0) dd' hq hd (by revert hu; cases dd' <;> simp) size_Rat]

theorem blit_run (r : Tmp → Value) (d : Option Tmp) (ty : TypeId) (pos : String) (after : Array Edge) (g : Option (Nat × Bool)) (w : World) :
    (execOp (evalOf r) ⟨d, .buildSlice 23 1 #[(0, .const (.int .u64 1))], ty, pos, after, g⟩).run Tryz.prog w = .ok (.value (.slice (some ⟨w.heap.size, 0, none⟩) 1 1)) (w.alloc (.cells #[.int .u64 ((1 : Nat) : Int)] 43)) := by kernel_rfl

/-- A literal of one word. -/
def OneW (I : World → Prop) (w : World) (v : Value) (w' : World) : Prop := I w' ∧ Below w.heap.size w w' ∧ ∃ b, v = .slice (some ⟨b, 0, none⟩) 1 1 ∧ Nv w' v [1]
theorem oneW (w : World) {I : World → Prop} (hI : ∀ {wy}, Below w.heap.size w wy → I wy) : OneW I w (.slice (some ⟨w.heap.size, 0, none⟩) 1 1) (w.alloc (.cells #[.int .u64 ((1 : Nat) : Int)] 43)) := by
  have hb : Below w.heap.size w (w.alloc (.cells #[.int .u64 ((1 : Nat) : Int)] 43)) := (Below.refl _ _).alloc (Nat.le_refl _) _
  exact ⟨hI hb, hb, _, rfl, Nv.lit w (by decide)⟩

theorem brings_blit {r : Tmp → Value} {d : Option Tmp} {ty : TypeId} {pos : String} {after : Array Edge} {g : Option (Nat × Bool)} {w : World} {I : World → Prop} (hI : ∀ {wy}, Below w.heap.size w wy → I wy) :
    Brings Tryz.prog (execOp (evalOf r) ⟨d, .buildSlice 23 1 #[(0, .const (.int .u64 1))], ty, pos, after, g⟩) w (OneW I w) :=
  by
    have h1 := blit_run r d ty pos after g w
    have h2 := oneW w hI
    generalize execOp (evalOf r) ⟨d, .buildSlice 23 1 #[(0, .const (.int .u64 1))], ty, pos, after, g⟩ = s at *
    exact brings_ok h1 h2

theorem bzero_run (b : Nat) (d : Option Tmp) (x : Operand) (ty : TypeId) (pos : String) (after : Array Edge) (g : Option (Nat × Bool)) (w : World) :
    (execOp (fun _ => .slice (some ⟨b, 0, none⟩) 1 1) ⟨d, .build 27 #[(1, x)], ty, pos, after, g⟩).run Tryz.prog w = .ok (.value (.agg #[.bool false, .slice none 0 0, .slice (some ⟨b, 0, none⟩) 1 1])) w := by kernel_rfl

theorem bzero_fv {b : Nat} {w : World} (hn : Nv w (.slice (some ⟨b, 0, none⟩) 1 1) [1]) : Fv w (.agg #[.bool false, .slice none 0 0, .slice (some ⟨b, 0, none⟩) 1 1]) 0 1 := by
  refine ⟨none, 0, some ⟨b, 0, none⟩, 1, ?_, (No.nil 0 _).nv, ?_⟩
  · rw [db_one]; rfl
  · rw [db_one]; exact hn

theorem brings_bzero {r : Tmp → Value} {d : Option Tmp} {x : Operand} {ty : TypeId} {pos : String} {after : Array Edge} {g : Option (Nat × Bool)} {w : World} {N : Value → World → Prop}
    (h : ∃ b, evalOf r x = .slice (some ⟨b, 0, none⟩) 1 1 ∧ Nv w (evalOf r x) [1]) (hN : ∀ v, Fv w v 0 1 → N v w) : Brings Tryz.prog (execOp (evalOf r) ⟨d, .build 27 #[(1, x)], ty, pos, after, g⟩) w N :=
  by
    have key : ∀ b, evalOf r x = .slice (some ⟨b, 0, none⟩) 1 1 → (execOp (evalOf r) ⟨d, .build 27 #[(1, x)], ty, pos, after, g⟩).run Tryz.prog w = .ok (.value (.agg #[.bool false, .slice none 0 0, .slice (some ⟨b, 0, none⟩) 1 1])) w := by
      intro b hb
      have h1 := bzero_run b d x ty pos after g w
      rw [← h1]
      simp only [execOp, List.map_toArray, List.map, hb]
    generalize execOp (evalOf r) ⟨d, .build 27 #[(1, x)], ty, pos, after, g⟩ = s at *
    obtain ⟨b, hv, hn⟩ := h
    rw [hv] at hn
    exact brings_ok (key b hv) (hN _ (bzero_fv hn))

end Go.Proofs.YthlpfhenaakljaaGreatDoor

namespace Go.Proofs.YthlpfhenaakljaaGreatDoor
open Go.RowKit

theorem Fv.parts {w : World} {v : Value} {z : Int} {d : Nat} (h : Fv w v z d) (b : Bool) (hb : decide (z < 0) = b) :
    ∃ a1 n1 c1 a2 n2 c2, v = .agg #[.bool b, .slice a1 n1 c1, .slice a2 n2 c2] ∧ Sl (w.alloc (.cells #[.bool b, .slice a1 n1 c1, .slice a2 n2 c2] 27)) w.heap.size z d ∧
      Below w.heap.size w (w.alloc (.cells #[.bool b, .slice a1 n1 c1, .slice a2 n2 c2] 27)) := by
  subst hb
  have h' := h
  obtain ⟨a1, c1, a2, c2, rfl, h1, h2⟩ := h
  exact ⟨a1, _, c1, a2, _, c2, rfl, ⟨_, _, _, heap_alloc_new w _, h'.below ((Below.refl _ _).alloc (Nat.le_refl _) _)⟩, (Below.refl _ _).alloc (Nat.le_refl _) _⟩

structure AwI (w : World) (q1 q3 qb qd qf : Nat) (wx : World) : Prop where
  bel : Bel w wx
  f1 : Sl wx q1 2 3
  f3 : Sl wx q3 0 1
  fb : Sl wx qb (-1) 2
  fd : Sl wx qd 1 8
  ff : Sl wx qf (-1) 8
theorem AwI.call {w wx wy : World} {q1 q3 qb qd qf : Nat} (h : AwI w q1 q3 qb qd qf wx) (hb : Below wx.heap.size wx wy) : AwI w q1 q3 qb qd qf wy :=
  ⟨h.bel.trans (hb.mono h.bel.size), h.f1.below hb, h.f3.below hb, h.fb.below hb, h.fd.below hb, h.ff.below hb⟩
theorem AwI.drew {w wx : World} {q1 q3 qb qd qf : Nat} (h : AwI w q1 q3 qb qd qf wx) : AwI w q1 q3 qb qd qf wx.drew := h.call (Below.refl _ _).drew

def awL : List (Nat × Sp) := [(59, .val (.int .i64 0)), (60, .tt), (61, .tt), (62, .fv 2 3), (63, .val (.string ⟨#[50, 47, 51]⟩)), (64, .tt), (65, .tt), (66, .tt), (67, .val (.int .i64 0)), (68, .tt), (69, .tt), (70, .tt), (71, .fv 0 1), (72, .lit 1), (73, .fv 0 1), (74, .tt), (75, .tt), (76, .tt), (77, .val (.int .i64 7)), (78, .tt), (79, .tt), (80, .tt), (81, .fv (-1) 2), (82, .val (.string ⟨#[45, 49, 47, 50]⟩)), (83, .tt), (84, .tt), (85, .tt), (86, .fv 1 2), (87, .fv 1 3), (88, .fv 5 6), (89, .val (.string ⟨#[53, 47, 54]⟩)), (90, .tt), (91, .tt), (92, .tt), (93, .val (.int .i64 7)), (94, .tt), (95, .tt), (96, .tt), (97, .val (.int .i64 3)), (98, .tt), (99, .tt), (100, .tt), (101, .val (.int .i64 0)), (102, .tt), (103, .tt), (104, .tt), (105, .fv (-1) 2), (106, .fv (-1) 2), (107, .tt), (108, .tt), (109, .tt), (110, .val (.int .i64 0)), (111, .tt), (112, .tt), (113, .tt), (114, .fv 1 8), (115, .val (.string ⟨#[49, 47, 56]⟩)), (116, .tt), (117, .tt), (118, .tt), (119, .val (.int .i64 0)), (120, .tt), (121, .tt), (122, .tt), (123, .fv (-1) 8), (124, .val (.string ⟨#[45, 49, 47, 56]⟩)), (125, .tt), (126, .tt), (127, .tt), (128, .fv 3 1), (129, .val (.string ⟨#[51]⟩)), (130, .tt), (131, .tt), (0, .tt)]
def awD : List Tmp := [59, 60, 61, 62, 63, 64, 65, 66, 67, 68, 69, 70, 71, 72, 73, 74, 75, 76, 77, 78, 79, 80, 81, 82, 83, 84, 85, 86, 87, 88, 89, 90, 91, 92, 93, 94, 95, 96, 97, 98, 99, 100, 101, 102, 103, 104, 105, 106, 107, 108, 109, 110, 111, 112, 113, 114, 115, 116, 117, 118, 119, 120, 121, 122, 123, 124, 125, 126, 127, 128, 129, 130, 131, 0]
def awG : List (List Tmp × Option (Option Tmp × Bool)) := [([], none), ([59], none), ([60], none), ([61], some (some 61, true)), ([62, 61], some (some 61, true)), ([63, 61], some (some 61, true)), ([61, 64], none), ([65], none), ([66], some (some 66, true)), ([67, 66], some (some 66, true)), ([66, 68], none), ([69], none), ([70], some (some 70, true)), ([70], some (some 70, true)), ([72, 70], some (some 70, true)), ([71, 73, 70], some (some 70, true)), ([70, 74], none), ([75], none), ([76], some (some 76, true)), ([77, 76], some (some 76, true)), ([76, 78], none), ([79], none), ([80], some (some 80, true)), ([81, 80], some (some 80, true)), ([82, 80], some (some 80, true)), ([80, 83], none), ([84], none), ([85], some (some 85, true)), ([85], some (some 85, true)), ([86, 87, 85], some (some 85, true)), ([88, 85], some (some 85, true)), ([89, 85], some (some 85, true)), ([85, 90], none), ([91], none), ([92], some (some 92, true)), ([93, 92], some (some 92, true)), ([92, 94], none), ([95], none), ([96], some (some 96, true)), ([97, 96], some (some 96, true)), ([96, 98], none), ([99], none), ([100], some (some 100, true)), ([101, 100], some (some 100, true)), ([100, 102], none), ([103], none), ([104], some (some 104, true)), ([104], some (some 104, true)), ([105, 106, 104], some (some 104, true)), ([104, 107], none), ([108], none), ([109], some (some 109, true)), ([110, 109], some (some 109, true)), ([109, 111], none), ([112], none), ([113], some (some 113, true)), ([114, 113], some (some 113, true)), ([115, 113], some (some 113, true)), ([113, 116], none), ([117], none), ([118], some (some 118, true)), ([119, 118], some (some 118, true)), ([118, 120], none), ([121], none), ([122], some (some 122, true)), ([123, 122], some (some 122, true)), ([124, 122], some (some 122, true)), ([122, 125], none), ([126], none), ([127], some (some 127, true)), ([128, 127], some (some 127, true)), ([129, 127], some (some 127, true)), ([127, 130], none), ([131], none)]
theorem ent_8 (args : Array Value) (w : World) : (callFunc 8 args).run Tryz.prog w = .ok (.enter 8 args) w := by
  obtain ⟨c, hc⟩ := Option.isSome_iff_exists.1 (show Tryz.f8.body.isSome = true by kernel_rfl)
  exact Go.MuLone.run_callFunc_enter Tryz.func8 (by kernel_rfl) hc args w
theorem ent_25 (args : Array Value) (w : World) : (callFunc 25 args).run Tryz.prog w = .ok (.enter 25 args) w := by
  obtain ⟨c, hc⟩ := Option.isSome_iff_exists.1 (show Tryz.f25.body.isSome = true by kernel_rfl)
  exact Go.MuLone.run_callFunc_enter Tryz.func25 (by kernel_rfl) hc args w
theorem ent_29 (args : Array Value) (w : World) : (callFunc 29 args).run Tryz.prog w = .ok (.enter 29 args) w := by
  obtain ⟨c, hc⟩ := Option.isSome_iff_exists.1 (show Tryz.f29.body.isSome = true by kernel_rfl)
  exact Go.MuLone.run_callFunc_enter Tryz.func29 (by kernel_rfl) hc args w
theorem ent_24 (args : Array Value) (w : World) : (callFunc 24 args).run Tryz.prog w = .ok (.enter 24 args) w := by
  obtain ⟨c, hc⟩ := Option.isSome_iff_exists.1 (show Tryz.f24.body.isSome = true by kernel_rfl)
  exact Go.MuLone.run_callFunc_enter Tryz.func24 (by kernel_rfl) hc args w
theorem ent_13 (args : Array Value) (w : World) : (callFunc 13 args).run Tryz.prog w = .ok (.enter 13 args) w := by
  obtain ⟨c, hc⟩ := Option.isSome_iff_exists.1 (show Tryz.f13.body.isSome = true by kernel_rfl)
  exact Go.MuLone.run_callFunc_enter Tryz.func13 (by kernel_rfl) hc args w
theorem Fv.zero (w : World) : Fv (w.alloc (.cells #[.int .u64 ((1 : Nat) : Int)] 43)) (.agg #[.bool false, .slice none 0 0, .slice (some ⟨w.heap.size, 0, none⟩) 1 1]) 0 1 := by
  refine ⟨none, 0, some ⟨w.heap.size, 0, none⟩, 1, ?_, (No.nil 0 _).nv, ?_⟩
  · rw [db_one]; rfl
  · rw [db_one]; exact Nv.lit w (by decide)

set_option maxHeartbeats 25600000 in
set_option maxRecDepth 100000 in
theorem awake6_calls (w : World) : Calls Tryz.prog 5 #[] w (fun e w' => e = .returned (.bool true) ∧ Below w.heap.size w w') := by
  have HB := Lib.hid (Below.refl w.heap.size w)
  have C1 := Lib.hid (mk_lit w 4 6 2 3 (by decide) (by decide) (by decide) (by decide) (by decide))
  go_enter Tryz.func5, Tryz.ntmps5
  go_wp2_with fail
  refine (C1.out).mono ?_
  rintro e u1 ⟨v1, rfl, hf, hb⟩
  have Fv1 := Lib.hid hf
  have HB := Lib.hid (show Bel w u1 from HB.out.trans (hb.mono HB.out.size))
  clear hb hf
  clear C1
  obtain ⟨a2, n2, c2, b2, m2, d2, rfl, hs, hb⟩ := Fv1.out.parts false (by decide)
  have S1 := Lib.hid hs
  have HB := Lib.hid (show Bel w (u1.alloc (.cells #[.bool false, .slice a2 n2 c2, .slice b2 m2 d2] 27)) from HB.out.trans (hb.mono HB.out.size))
  clear hs hb
  have ga := heap_alloc_new u1 (.cells #[.bool false, .slice none 0 0, .slice none 0 0] 27)
  have e0 := frozen_of_row _ _ 0 _ _ ga
  have e1 := frozen_of_row _ _ 1 _ _ ga
  have e2 := frozen_of_row _ _ 2 _ _ ga
  have r0 := cell_of_row _ _ 0 _ _ (0, 0) ga
  have r1 := cell_of_row _ _ 1 _ _ (0, 0) ga
  have r2 := cell_of_row _ _ 2 _ _ (0, 0) ga
  clear ga
  go_upto_region 2 with fail
  generalize u1.alloc (.cells #[.bool false, .slice a2 n2 c2, .slice b2 m2 d2] 27) = u2 at *
  generalize u1.heap.size = q2 at *
  clear e0 e1 e2 r0 r1 r2 Fv1
  have C2 := Lib.hid (mk_none u2 5 (by decide) (by decide))
  go_wp2_with fail
  refine (C2.out).mono ?_
  rintro e u3 ⟨v3, rfl, hf, hb⟩
  have Fv3 := Lib.hid hf
  have S1 := Lib.hid (S1.out.below hb)
  have HB := Lib.hid (show Bel w u3 from HB.out.trans (hb.mono HB.out.size))
  clear hb hf
  clear C2
  obtain ⟨a4, n4, c4, b4, m4, d4, rfl, hs, hb⟩ := Fv3.out.parts false (by decide)
  have S3 := Lib.hid hs
  have S1 := Lib.hid (S1.out.below hb)
  have HB := Lib.hid (show Bel w (u3.alloc (.cells #[.bool false, .slice a4 n4 c4, .slice b4 m4 d4] 27)) from HB.out.trans (hb.mono HB.out.size))
  clear hs hb
  have ga := heap_alloc_new u3 (.cells #[.bool false, .slice none 0 0, .slice none 0 0] 27)
  have e0 := frozen_of_row _ _ 0 _ _ ga
  have e1 := frozen_of_row _ _ 1 _ _ ga
  have e2 := frozen_of_row _ _ 2 _ _ ga
  have r0 := cell_of_row _ _ 0 _ _ (0, 0) ga
  have r1 := cell_of_row _ _ 1 _ _ (0, 0) ga
  have r2 := cell_of_row _ _ 2 _ _ (0, 0) ga
  clear ga
  go_upto_region 3 with fail
  generalize u3.alloc (.cells #[.bool false, .slice a4 n4 c4, .slice b4 m4 d4] 27) = u4 at *
  generalize u3.heap.size = q4 at *
  clear e0 e1 e2 r0 r1 r2 Fv3
  have C3 := Lib.hid (mk_bad u4 1 (by decide))
  go_wp2_with fail
  refine (C3.out).mono ?_
  rintro e u5 ⟨rfl, hb⟩
  have S1 := Lib.hid (S1.out.below hb)
  have S3 := Lib.hid (S3.out.below hb)
  have HB := Lib.hid (show Bel w u5 from HB.out.trans (hb.mono HB.out.size))
  clear hb
  clear C3
  have hb := (Below.refl u5.heap.size u5).alloc (Nat.le_refl _) (.cells #[.bool false, .slice none 0 0, .slice none 0 0] 27)
  have S1 := Lib.hid (S1.out.below hb)
  have S3 := Lib.hid (S3.out.below hb)
  have HB := Lib.hid (show Bel w (u5.alloc (.cells #[.bool false, .slice none 0 0, .slice none 0 0] 27)) from HB.out.trans (hb.mono HB.out.size))
  clear hb
  have ga := heap_alloc_new u5 (.cells #[.bool false, .slice none 0 0, .slice none 0 0] 27)
  have e0 := frozen_of_row _ _ 0 _ _ ga
  have e1 := frozen_of_row _ _ 1 _ _ ga
  have e2 := frozen_of_row _ _ 2 _ _ ga
  have r0 := cell_of_row _ _ 0 _ _ (0, 0) ga
  have r1 := cell_of_row _ _ 1 _ _ (0, 0) ga
  have r2 := cell_of_row _ _ 2 _ _ (0, 0) ga
  clear ga
  go_upto_region 4 with fail
  generalize u5.alloc (.cells #[.bool false, .slice none 0 0, .slice none 0 0] 27) = u6 at *
  generalize u5.heap.size = q6 at *
  clear e0 e1 e2 r0 r1 r2
  go_wp2_with fail
  refine (over_f 1 2 1 2 _ (by decide) (by decide) (by decide) (by decide) (by decide) (by decide) (by decide)).mono ?_
  rintro e u7 ⟨v7, rfl, hf, hb⟩
  have Fv7 := Lib.hid hf
  have S1 := Lib.hid (S1.out.below hb)
  have S3 := Lib.hid (S3.out.below hb)
  have HB := Lib.hid (show Bel w u7 from HB.out.trans (hb.mono HB.out.size))
  clear hb hf
  go_wp2_with fail
  refine (of_f 0 _ (by decide) (by decide)).mono ?_
  rintro e u8 ⟨v8, rfl, hf, hb⟩
  have Fv8 := Lib.hid hf
  have Fv7 := Lib.hid (Fv7.out.below hb)
  have S1 := Lib.hid (S1.out.below hb)
  have S3 := Lib.hid (S3.out.below hb)
  have HB := Lib.hid (show Bel w u8 from HB.out.trans (hb.mono HB.out.size))
  clear hb hf
  go_wp2_with fail
  refine (quo0_f _ _ _ Fv7.out Fv8.out).mono ?_
  rintro e u9 ⟨rfl, hb⟩
  have S1 := Lib.hid (S1.out.below hb)
  have S3 := Lib.hid (S3.out.below hb)
  have HB := Lib.hid (show Bel w u9 from HB.out.trans (hb.mono HB.out.size))
  clear hb
  clear Fv7 Fv8
  have hb := (Below.refl u9.heap.size u9).alloc (Nat.le_refl _) (.cells #[.bool false, .slice none 0 0, .slice none 0 0] 27)
  have S1 := Lib.hid (S1.out.below hb)
  have S3 := Lib.hid (S3.out.below hb)
  have HB := Lib.hid (show Bel w (u9.alloc (.cells #[.bool false, .slice none 0 0, .slice none 0 0] 27)) from HB.out.trans (hb.mono HB.out.size))
  clear hb
  have ga := heap_alloc_new u9 (.cells #[.bool false, .slice none 0 0, .slice none 0 0] 27)
  have e0 := frozen_of_row _ _ 0 _ _ ga
  have e1 := frozen_of_row _ _ 1 _ _ ga
  have e2 := frozen_of_row _ _ 2 _ _ ga
  have r0 := cell_of_row _ _ 0 _ _ (0, 0) ga
  have r1 := cell_of_row _ _ 1 _ _ (0, 0) ga
  have r2 := cell_of_row _ _ 2 _ _ (0, 0) ga
  clear ga
  go_upto_region 5 with fail
  generalize u9.alloc (.cells #[.bool false, .slice none 0 0, .slice none 0 0] 27) = u10 at *
  generalize u9.heap.size = q10 at *
  clear e0 e1 e2 r0 r1 r2
  go_wp2_with fail
  refine (read_p _).mono ?_
  rintro e u11 ⟨rfl, hb⟩
  have S1 := Lib.hid (S1.out.below hb)
  have S3 := Lib.hid (S3.out.below hb)
  have HB := Lib.hid (show Bel w u11 from HB.out.trans (hb.mono HB.out.size))
  clear hb
  have hb := (Below.refl u11.heap.size u11).alloc (Nat.le_refl _) (.cells #[.bool false, .slice none 0 0, .slice none 0 0] 27)
  have S1 := Lib.hid (S1.out.below hb)
  have S3 := Lib.hid (S3.out.below hb)
  have HB := Lib.hid (show Bel w (u11.alloc (.cells #[.bool false, .slice none 0 0, .slice none 0 0] 27)) from HB.out.trans (hb.mono HB.out.size))
  clear hb
  have ga := heap_alloc_new u11 (.cells #[.bool false, .slice none 0 0, .slice none 0 0] 27)
  have e0 := frozen_of_row _ _ 0 _ _ ga
  have e1 := frozen_of_row _ _ 1 _ _ ga
  have e2 := frozen_of_row _ _ 2 _ _ ga
  have r0 := cell_of_row _ _ 0 _ _ (0, 0) ga
  have r1 := cell_of_row _ _ 1 _ _ (0, 0) ga
  have r2 := cell_of_row _ _ 2 _ _ (0, 0) ga
  clear ga
  go_upto_region 6 with fail
  generalize u11.alloc (.cells #[.bool false, .slice none 0 0, .slice none 0 0] 27) = u12 at *
  generalize u11.heap.size = q12 at *
  clear e0 e1 e2 r0 r1 r2
  go_wp2_with fail
  refine (read_m _).mono ?_
  rintro e u13 ⟨v13, rfl, hf, hb⟩
  have Fv13 := Lib.hid hf
  have S1 := Lib.hid (S1.out.below hb)
  have S3 := Lib.hid (S3.out.below hb)
  have HB := Lib.hid (show Bel w u13 from HB.out.trans (hb.mono HB.out.size))
  clear hb hf
  obtain ⟨a14, n14, c14, b14, m14, d14, rfl, hs, hb⟩ := Fv13.out.parts true (by decide)
  have S11 := Lib.hid hs
  have S1 := Lib.hid (S1.out.below hb)
  have S3 := Lib.hid (S3.out.below hb)
  have HB := Lib.hid (show Bel w (u13.alloc (.cells #[.bool true, .slice a14 n14 c14, .slice b14 m14 d14] 27)) from HB.out.trans (hb.mono HB.out.size))
  clear hs hb
  have ga := heap_alloc_new u13 (.cells #[.bool false, .slice none 0 0, .slice none 0 0] 27)
  have e0 := frozen_of_row _ _ 0 _ _ ga
  have e1 := frozen_of_row _ _ 1 _ _ ga
  have e2 := frozen_of_row _ _ 2 _ _ ga
  have r0 := cell_of_row _ _ 0 _ _ (0, 0) ga
  have r1 := cell_of_row _ _ 1 _ _ (0, 0) ga
  have r2 := cell_of_row _ _ 2 _ _ (0, 0) ga
  clear ga
  go_upto_region 7 with fail
  generalize u13.alloc (.cells #[.bool true, .slice a14 n14 c14, .slice b14 m14 d14] 27) = u14 at *
  generalize u13.heap.size = q14 at *
  clear e0 e1 e2 r0 r1 r2 Fv13
  go_wp2_with fail
  refine (half_f _).mono ?_
  rintro e u15 ⟨v15, rfl, hf, hb⟩
  have Fv15 := Lib.hid hf
  have S1 := Lib.hid (S1.out.below hb)
  have S3 := Lib.hid (S3.out.below hb)
  have S11 := Lib.hid (S11.out.below hb)
  have HB := Lib.hid (show Bel w u15 from HB.out.trans (hb.mono HB.out.size))
  clear hb hf
  obtain ⟨a16, n16, c16, b16, m16, d16, rfl, hs, hb⟩ := Fv15.out.parts false (by decide)
  have S13 := Lib.hid hs
  have S1 := Lib.hid (S1.out.below hb)
  have S3 := Lib.hid (S3.out.below hb)
  have S11 := Lib.hid (S11.out.below hb)
  have HB := Lib.hid (show Bel w (u15.alloc (.cells #[.bool false, .slice a16 n16 c16, .slice b16 m16 d16] 27)) from HB.out.trans (hb.mono HB.out.size))
  clear hs hb
  have ga := heap_alloc_new u15 (.cells #[.bool false, .slice none 0 0, .slice none 0 0] 27)
  have e0 := frozen_of_row _ _ 0 _ _ ga
  have e1 := frozen_of_row _ _ 1 _ _ ga
  have e2 := frozen_of_row _ _ 2 _ _ ga
  have r0 := cell_of_row _ _ 0 _ _ (0, 0) ga
  have r1 := cell_of_row _ _ 1 _ _ (0, 0) ga
  have r2 := cell_of_row _ _ 2 _ _ (0, 0) ga
  clear ga
  go_upto_region 8 with fail
  generalize u15.alloc (.cells #[.bool false, .slice a16 n16 c16, .slice b16 m16 d16] 27) = u16 at *
  generalize u15.heap.size = q16 at *
  clear e0 e1 e2 r0 r1 r2 Fv15
  go_wp2_with fail
  refine (over_f (-1) 2 (-1) 2 _ (by decide) (by decide) (by decide) (by decide) (by decide) (by decide) (by decide)).mono ?_
  rintro e u17 ⟨v17, rfl, hf, hb⟩
  have Fv17 := Lib.hid hf
  have S1 := Lib.hid (S1.out.below hb)
  have S3 := Lib.hid (S3.out.below hb)
  have S11 := Lib.hid (S11.out.below hb)
  have S13 := Lib.hid (S13.out.below hb)
  have HB := Lib.hid (show Bel w u17 from HB.out.trans (hb.mono HB.out.size))
  clear hb hf
  go_wp2_with fail
  refine (pow_f _ _ Fv17.out).mono ?_
  rintro e u18 ⟨v18, rfl, hf, hb⟩
  have Fv18 := Lib.hid hf
  have S1 := Lib.hid (S1.out.below hb)
  have S3 := Lib.hid (S3.out.below hb)
  have S11 := Lib.hid (S11.out.below hb)
  have S13 := Lib.hid (S13.out.below hb)
  have HB := Lib.hid (show Bel w u18 from HB.out.trans (hb.mono HB.out.size))
  clear hb hf
  clear Fv17
  obtain ⟨a19, n19, c19, b19, m19, d19, rfl, hs, hb⟩ := Fv18.out.parts true (by decide)
  have S15 := Lib.hid hs
  have S1 := Lib.hid (S1.out.below hb)
  have S3 := Lib.hid (S3.out.below hb)
  have S11 := Lib.hid (S11.out.below hb)
  have S13 := Lib.hid (S13.out.below hb)
  have HB := Lib.hid (show Bel w (u18.alloc (.cells #[.bool true, .slice a19 n19 c19, .slice b19 m19 d19] 27)) from HB.out.trans (hb.mono HB.out.size))
  clear hs hb
  have ga := heap_alloc_new u18 (.cells #[.bool false, .slice none 0 0, .slice none 0 0] 27)
  have e0 := frozen_of_row _ _ 0 _ _ ga
  have e1 := frozen_of_row _ _ 1 _ _ ga
  have e2 := frozen_of_row _ _ 2 _ _ ga
  have r0 := cell_of_row _ _ 0 _ _ (0, 0) ga
  have r1 := cell_of_row _ _ 1 _ _ (0, 0) ga
  have r2 := cell_of_row _ _ 2 _ _ (0, 0) ga
  clear ga
  go_upto_region 9 with fail
  generalize u18.alloc (.cells #[.bool true, .slice a19 n19 c19, .slice b19 m19 d19] 27) = u19 at *
  generalize u18.heap.size = q19 at *
  clear e0 e1 e2 r0 r1 r2 Fv18
  have HI : AwI w q2 q4 q14 q16 q19 u19 := ⟨HB.out, S1.out, S3.out, S11.out, S13.out, S15.out⟩
  clear S1 S3 S11 S13 S15 HB
  simp only [List.append_eq, List.cons_append, List.nil_append]
  refine wp_region_plain (spOf awL) (AwI w q2 q4 q14 q16 q19) (fun w w' => Below w.heap.size w w') awD awG (by kernel_rfl) (by kernel_rfl) (by kernel_rfl) (by kernel_rfl) (by kernel_rfl) (fun _ _ _ _ h hb => Sp.stab h hb) (fun _ => Below.refl _ _) HI.drew ?steps ?hend
  case steps =>
    refine ⟨fun r wx ho hI hA => .inl ⟨rfl, brings_move (v := .int .i64 0) (show r 2 = .int .i64 0 from ho 2 (by decide)) ⟨hI, Below.refl _ _, rfl⟩⟩, ?_⟩
    refine ⟨fun r wx ho hI hA => .inl ⟨rfl, brings_bin (v := .bool true) (show r 59 = (.int .i64 0) from hA.1) rfl (by kernel_rfl) ⟨hI, Below.refl _ _, rfl⟩⟩, ?_⟩
    refine ⟨fun r wx ho hI hA => .inl ⟨rfl, brings_move (v := .bool true) (show r 60 = .bool true from hA.1) ⟨hI, Below.refl _ _, rfl⟩⟩, ?_⟩
    refine ⟨fun r wx ho hI hA => .inl ⟨wants_b (show r 61 = .bool true from hA.1), brings_load_sl (q := q2) (show r 1 = .pointer (some ⟨q2, 0, none⟩) from ho 1 (by decide)) hI.f1 fun v hv => ⟨hI, Below.refl _ _, hv⟩⟩, ?_⟩
    refine ⟨fun r wx ho hI hA => .inl ⟨wants_b (show r 61 = .bool true from hA.2.1), brings_call [r 62] (ent_29) rfl (callV (show_f _ 2 3 ⟨#[50, 47, 51]⟩ wx hA.1 (by decide) (by decide) (by decide) (by decide) (by decide) (by decide) (by kernel_rfl)) fun _ hb => hI.call hb)⟩, ?_⟩
    refine ⟨fun r wx ho hI hA => .inl ⟨wants_b (show r 61 = .bool true from hA.2.1), brings_bin (v := .bool true) (show r 63 = (.string ⟨#[50, 47, 51]⟩) from hA.1) rfl (by kernel_rfl) ⟨hI, Below.refl _ _, rfl⟩⟩, ?_⟩
    refine ⟨fun r wx ho hI hA => .inl ⟨rfl, brings_pick (b := true) (show r 61 = .bool true from hA.1) ⟨hI, Below.refl _ _, show r 64 = .bool true from hA.2.1⟩⟩, ?_⟩
    refine ⟨fun r wx ho hI hA => .inl ⟨rfl, brings_move (v := .bool true) (show r 65 = .bool true from hA.1) ⟨hI, Below.refl _ _, rfl⟩⟩, ?_⟩
    refine ⟨fun r wx ho hI hA => .inl ⟨wants_b (show r 66 = .bool true from hA.1), brings_move (v := .int .i64 0) (show r 4 = .int .i64 0 from ho 4 (by decide)) ⟨hI, Below.refl _ _, rfl⟩⟩, ?_⟩
    refine ⟨fun r wx ho hI hA => .inl ⟨wants_b (show r 66 = .bool true from hA.2.1), brings_bin (v := .bool true) (show r 67 = (.int .i64 0) from hA.1) rfl (by kernel_rfl) ⟨hI, Below.refl _ _, rfl⟩⟩, ?_⟩
    refine ⟨fun r wx ho hI hA => .inl ⟨rfl, brings_pick (b := true) (show r 66 = .bool true from hA.1) ⟨hI, Below.refl _ _, show r 68 = .bool true from hA.2.1⟩⟩, ?_⟩
    refine ⟨fun r wx ho hI hA => .inl ⟨rfl, brings_move (v := .bool true) (show r 69 = .bool true from hA.1) ⟨hI, Below.refl _ _, rfl⟩⟩, ?_⟩
    refine ⟨fun r wx ho hI hA => .inl ⟨wants_b (show r 70 = .bool true from hA.1), brings_load_sl (q := q4) (show r 3 = .pointer (some ⟨q4, 0, none⟩) from ho 3 (by decide)) hI.f3 fun v hv => ⟨hI, Below.refl _ _, hv⟩⟩, ?_⟩
    refine ⟨fun r wx ho hI hA => .inl ⟨wants_b (show r 70 = .bool true from hA.1), brings_blit hI.call⟩, ?_⟩
    refine ⟨fun r wx ho hI hA => .inl ⟨wants_b (show r 70 = .bool true from hA.2.1), brings_bzero (show ∃ b, r 72 = .slice (some ⟨b, 0, none⟩) 1 1 ∧ Nv wx (r 72) [1] from hA.1) fun v hv => ⟨hI, Below.refl _ _, hv⟩⟩, ?_⟩
    refine ⟨fun r wx ho hI hA => .inl ⟨wants_b (show r 70 = .bool true from hA.2.2.1), brings_call [r 71, r 73] (ent_13) rfl (callV (is_f _ _ 0 1 wx hA.1 hA.2.1 (by decide) (by rw [db_one]; decide)) fun _ hb => hI.call hb)⟩, ?_⟩
    refine ⟨fun r wx ho hI hA => .inl ⟨rfl, brings_pick (b := true) (show r 70 = .bool true from hA.1) ⟨hI, Below.refl _ _, show r 74 = .bool true from hA.2.1⟩⟩, ?_⟩
    refine ⟨fun r wx ho hI hA => .inl ⟨rfl, brings_move (v := .bool true) (show r 75 = .bool true from hA.1) ⟨hI, Below.refl _ _, rfl⟩⟩, ?_⟩
    refine ⟨fun r wx ho hI hA => .inl ⟨wants_b (show r 76 = .bool true from hA.1), brings_move (v := .int .i64 7) (show r 6 = .int .i64 7 from ho 6 (by decide)) ⟨hI, Below.refl _ _, rfl⟩⟩, ?_⟩
    refine ⟨fun r wx ho hI hA => .inl ⟨wants_b (show r 76 = .bool true from hA.2.1), brings_bin (v := .bool true) (show r 77 = (.int .i64 7) from hA.1) rfl (by kernel_rfl) ⟨hI, Below.refl _ _, rfl⟩⟩, ?_⟩
    refine ⟨fun r wx ho hI hA => .inl ⟨rfl, brings_pick (b := true) (show r 76 = .bool true from hA.1) ⟨hI, Below.refl _ _, show r 78 = .bool true from hA.2.1⟩⟩, ?_⟩
    refine ⟨fun r wx ho hI hA => .inl ⟨rfl, brings_move (v := .bool true) (show r 79 = .bool true from hA.1) ⟨hI, Below.refl _ _, rfl⟩⟩, ?_⟩
    refine ⟨fun r wx ho hI hA => .inl ⟨wants_b (show r 80 = .bool true from hA.1), brings_call [.int .i64 (1), .int .i64 (-2)] (ent_24) rfl (callF (over_f 1 (-2) (-1) 2 wx (by decide) (by decide) (by decide) (by decide) (by decide) (by decide) (by decide)) fun _ hb => hI.call hb)⟩, ?_⟩
    refine ⟨fun r wx ho hI hA => .inl ⟨wants_b (show r 80 = .bool true from hA.2.1), brings_call [r 81] (ent_29) rfl (callV (show_f _ (-1) 2 ⟨#[45, 49, 47, 50]⟩ wx hA.1 (by decide) (by decide) (by decide) (by decide) (by decide) (by decide) (by kernel_rfl)) fun _ hb => hI.call hb)⟩, ?_⟩
    refine ⟨fun r wx ho hI hA => .inl ⟨wants_b (show r 80 = .bool true from hA.2.1), brings_bin (v := .bool true) (show r 82 = (.string ⟨#[45, 49, 47, 50]⟩) from hA.1) rfl (by kernel_rfl) ⟨hI, Below.refl _ _, rfl⟩⟩, ?_⟩
    refine ⟨fun r wx ho hI hA => .inl ⟨rfl, brings_pick (b := true) (show r 80 = .bool true from hA.1) ⟨hI, Below.refl _ _, show r 83 = .bool true from hA.2.1⟩⟩, ?_⟩
    refine ⟨fun r wx ho hI hA => .inl ⟨rfl, brings_move (v := .bool true) (show r 84 = .bool true from hA.1) ⟨hI, Below.refl _ _, rfl⟩⟩, ?_⟩
    refine ⟨fun r wx ho hI hA => .inl ⟨wants_b (show r 85 = .bool true from hA.1), brings_call [.int .i64 (1), .int .i64 (2)] (ent_24) rfl (callF (over_f 1 (2) 1 2 wx (by decide) (by decide) (by decide) (by decide) (by decide) (by decide) (by decide)) fun _ hb => hI.call hb)⟩, ?_⟩
    refine ⟨fun r wx ho hI hA => .inl ⟨wants_b (show r 85 = .bool true from hA.1), brings_call [.int .i64 (1), .int .i64 (3)] (ent_24) rfl (callF (over_f 1 (3) 1 3 wx (by decide) (by decide) (by decide) (by decide) (by decide) (by decide) (by decide)) fun _ hb => hI.call hb)⟩, ?_⟩
    refine ⟨fun r wx ho hI hA => .inl ⟨wants_b (show r 85 = .bool true from hA.2.2.1), brings_call [r 86, r 87] (ent_8) rfl (callF (add_f _ _ wx hA.1 hA.2.1) fun _ hb => hI.call hb)⟩, ?_⟩
    refine ⟨fun r wx ho hI hA => .inl ⟨wants_b (show r 85 = .bool true from hA.2.1), brings_call [r 88] (ent_29) rfl (callV (show_f _ 5 6 ⟨#[53, 47, 54]⟩ wx hA.1 (by decide) (by decide) (by decide) (by decide) (by decide) (by decide) (by kernel_rfl)) fun _ hb => hI.call hb)⟩, ?_⟩
    refine ⟨fun r wx ho hI hA => .inl ⟨wants_b (show r 85 = .bool true from hA.2.1), brings_bin (v := .bool true) (show r 89 = (.string ⟨#[53, 47, 54]⟩) from hA.1) rfl (by kernel_rfl) ⟨hI, Below.refl _ _, rfl⟩⟩, ?_⟩
    refine ⟨fun r wx ho hI hA => .inl ⟨rfl, brings_pick (b := true) (show r 85 = .bool true from hA.1) ⟨hI, Below.refl _ _, show r 90 = .bool true from hA.2.1⟩⟩, ?_⟩
    refine ⟨fun r wx ho hI hA => .inl ⟨rfl, brings_move (v := .bool true) (show r 91 = .bool true from hA.1) ⟨hI, Below.refl _ _, rfl⟩⟩, ?_⟩
    refine ⟨fun r wx ho hI hA => .inl ⟨wants_b (show r 92 = .bool true from hA.1), brings_move (v := .int .i64 7) (show r 8 = .int .i64 7 from ho 8 (by decide)) ⟨hI, Below.refl _ _, rfl⟩⟩, ?_⟩
    refine ⟨fun r wx ho hI hA => .inl ⟨wants_b (show r 92 = .bool true from hA.2.1), brings_bin (v := .bool true) (show r 93 = (.int .i64 7) from hA.1) rfl (by kernel_rfl) ⟨hI, Below.refl _ _, rfl⟩⟩, ?_⟩
    refine ⟨fun r wx ho hI hA => .inl ⟨rfl, brings_pick (b := true) (show r 92 = .bool true from hA.1) ⟨hI, Below.refl _ _, show r 94 = .bool true from hA.2.1⟩⟩, ?_⟩
    refine ⟨fun r wx ho hI hA => .inl ⟨rfl, brings_move (v := .bool true) (show r 95 = .bool true from hA.1) ⟨hI, Below.refl _ _, rfl⟩⟩, ?_⟩
    refine ⟨fun r wx ho hI hA => .inl ⟨wants_b (show r 96 = .bool true from hA.1), brings_move (v := .int .i64 3) (show r 10 = .int .i64 3 from ho 10 (by decide)) ⟨hI, Below.refl _ _, rfl⟩⟩, ?_⟩
    refine ⟨fun r wx ho hI hA => .inl ⟨wants_b (show r 96 = .bool true from hA.2.1), brings_bin (v := .bool true) (show r 97 = (.int .i64 3) from hA.1) rfl (by kernel_rfl) ⟨hI, Below.refl _ _, rfl⟩⟩, ?_⟩
    refine ⟨fun r wx ho hI hA => .inl ⟨rfl, brings_pick (b := true) (show r 96 = .bool true from hA.1) ⟨hI, Below.refl _ _, show r 98 = .bool true from hA.2.1⟩⟩, ?_⟩
    refine ⟨fun r wx ho hI hA => .inl ⟨rfl, brings_move (v := .bool true) (show r 99 = .bool true from hA.1) ⟨hI, Below.refl _ _, rfl⟩⟩, ?_⟩
    refine ⟨fun r wx ho hI hA => .inl ⟨wants_b (show r 100 = .bool true from hA.1), brings_move (v := .int .i64 0) (show r 12 = .int .i64 0 from ho 12 (by decide)) ⟨hI, Below.refl _ _, rfl⟩⟩, ?_⟩
    refine ⟨fun r wx ho hI hA => .inl ⟨wants_b (show r 100 = .bool true from hA.2.1), brings_bin (v := .bool true) (show r 101 = (.int .i64 0) from hA.1) rfl (by kernel_rfl) ⟨hI, Below.refl _ _, rfl⟩⟩, ?_⟩
    refine ⟨fun r wx ho hI hA => .inl ⟨rfl, brings_pick (b := true) (show r 100 = .bool true from hA.1) ⟨hI, Below.refl _ _, show r 102 = .bool true from hA.2.1⟩⟩, ?_⟩
    refine ⟨fun r wx ho hI hA => .inl ⟨rfl, brings_move (v := .bool true) (show r 103 = .bool true from hA.1) ⟨hI, Below.refl _ _, rfl⟩⟩, ?_⟩
    refine ⟨fun r wx ho hI hA => .inl ⟨wants_b (show r 104 = .bool true from hA.1), brings_load_sl (q := q14) (show r 11 = .pointer (some ⟨q14, 0, none⟩) from ho 11 (by decide)) hI.fb fun v hv => ⟨hI, Below.refl _ _, hv⟩⟩, ?_⟩
    refine ⟨fun r wx ho hI hA => .inl ⟨wants_b (show r 104 = .bool true from hA.1), brings_call [.int .i64 (1), .int .i64 (-2)] (ent_24) rfl (callF (over_f 1 (-2) (-1) 2 wx (by decide) (by decide) (by decide) (by decide) (by decide) (by decide) (by decide)) fun _ hb => hI.call hb)⟩, ?_⟩
    refine ⟨fun r wx ho hI hA => .inl ⟨wants_b (show r 104 = .bool true from hA.2.2.1), brings_call [r 105, r 106] (ent_13) rfl (callV (is_f _ _ (-1) 2 wx hA.1 hA.2.1 (Nat.le_trans (Dg.db_length (k := 1) (by decide) (by decide)) (by decide)) (Nat.le_trans (Dg.db_length (k := 1) (by decide) (by decide)) (by decide))) fun _ hb => hI.call hb)⟩, ?_⟩
    refine ⟨fun r wx ho hI hA => .inl ⟨rfl, brings_pick (b := true) (show r 104 = .bool true from hA.1) ⟨hI, Below.refl _ _, show r 107 = .bool true from hA.2.1⟩⟩, ?_⟩
    refine ⟨fun r wx ho hI hA => .inl ⟨rfl, brings_move (v := .bool true) (show r 108 = .bool true from hA.1) ⟨hI, Below.refl _ _, rfl⟩⟩, ?_⟩
    refine ⟨fun r wx ho hI hA => .inl ⟨wants_b (show r 109 = .bool true from hA.1), brings_move (v := .int .i64 0) (show r 14 = .int .i64 0 from ho 14 (by decide)) ⟨hI, Below.refl _ _, rfl⟩⟩, ?_⟩
    refine ⟨fun r wx ho hI hA => .inl ⟨wants_b (show r 109 = .bool true from hA.2.1), brings_bin (v := .bool true) (show r 110 = (.int .i64 0) from hA.1) rfl (by kernel_rfl) ⟨hI, Below.refl _ _, rfl⟩⟩, ?_⟩
    refine ⟨fun r wx ho hI hA => .inl ⟨rfl, brings_pick (b := true) (show r 109 = .bool true from hA.1) ⟨hI, Below.refl _ _, show r 111 = .bool true from hA.2.1⟩⟩, ?_⟩
    refine ⟨fun r wx ho hI hA => .inl ⟨rfl, brings_move (v := .bool true) (show r 112 = .bool true from hA.1) ⟨hI, Below.refl _ _, rfl⟩⟩, ?_⟩
    refine ⟨fun r wx ho hI hA => .inl ⟨wants_b (show r 113 = .bool true from hA.1), brings_load_sl (q := q16) (show r 13 = .pointer (some ⟨q16, 0, none⟩) from ho 13 (by decide)) hI.fd fun v hv => ⟨hI, Below.refl _ _, hv⟩⟩, ?_⟩
    refine ⟨fun r wx ho hI hA => .inl ⟨wants_b (show r 113 = .bool true from hA.2.1), brings_call [r 114] (ent_29) rfl (callV (show_f _ 1 8 ⟨#[49, 47, 56]⟩ wx hA.1 (by decide) (by decide) (by decide) (by decide) (by decide) (by decide) (by kernel_rfl)) fun _ hb => hI.call hb)⟩, ?_⟩
    refine ⟨fun r wx ho hI hA => .inl ⟨wants_b (show r 113 = .bool true from hA.2.1), brings_bin (v := .bool true) (show r 115 = (.string ⟨#[49, 47, 56]⟩) from hA.1) rfl (by kernel_rfl) ⟨hI, Below.refl _ _, rfl⟩⟩, ?_⟩
    refine ⟨fun r wx ho hI hA => .inl ⟨rfl, brings_pick (b := true) (show r 113 = .bool true from hA.1) ⟨hI, Below.refl _ _, show r 116 = .bool true from hA.2.1⟩⟩, ?_⟩
    refine ⟨fun r wx ho hI hA => .inl ⟨rfl, brings_move (v := .bool true) (show r 117 = .bool true from hA.1) ⟨hI, Below.refl _ _, rfl⟩⟩, ?_⟩
    refine ⟨fun r wx ho hI hA => .inl ⟨wants_b (show r 118 = .bool true from hA.1), brings_move (v := .int .i64 0) (show r 16 = .int .i64 0 from ho 16 (by decide)) ⟨hI, Below.refl _ _, rfl⟩⟩, ?_⟩
    refine ⟨fun r wx ho hI hA => .inl ⟨wants_b (show r 118 = .bool true from hA.2.1), brings_bin (v := .bool true) (show r 119 = (.int .i64 0) from hA.1) rfl (by kernel_rfl) ⟨hI, Below.refl _ _, rfl⟩⟩, ?_⟩
    refine ⟨fun r wx ho hI hA => .inl ⟨rfl, brings_pick (b := true) (show r 118 = .bool true from hA.1) ⟨hI, Below.refl _ _, show r 120 = .bool true from hA.2.1⟩⟩, ?_⟩
    refine ⟨fun r wx ho hI hA => .inl ⟨rfl, brings_move (v := .bool true) (show r 121 = .bool true from hA.1) ⟨hI, Below.refl _ _, rfl⟩⟩, ?_⟩
    refine ⟨fun r wx ho hI hA => .inl ⟨wants_b (show r 122 = .bool true from hA.1), brings_load_sl (q := q19) (show r 15 = .pointer (some ⟨q19, 0, none⟩) from ho 15 (by decide)) hI.ff fun v hv => ⟨hI, Below.refl _ _, hv⟩⟩, ?_⟩
    refine ⟨fun r wx ho hI hA => .inl ⟨wants_b (show r 122 = .bool true from hA.2.1), brings_call [r 123] (ent_29) rfl (callV (show_f _ (-1) 8 ⟨#[45, 49, 47, 56]⟩ wx hA.1 (by decide) (by decide) (by decide) (by decide) (by decide) (by decide) (by kernel_rfl)) fun _ hb => hI.call hb)⟩, ?_⟩
    refine ⟨fun r wx ho hI hA => .inl ⟨wants_b (show r 122 = .bool true from hA.2.1), brings_bin (v := .bool true) (show r 124 = (.string ⟨#[45, 49, 47, 56]⟩) from hA.1) rfl (by kernel_rfl) ⟨hI, Below.refl _ _, rfl⟩⟩, ?_⟩
    refine ⟨fun r wx ho hI hA => .inl ⟨rfl, brings_pick (b := true) (show r 122 = .bool true from hA.1) ⟨hI, Below.refl _ _, show r 125 = .bool true from hA.2.1⟩⟩, ?_⟩
    refine ⟨fun r wx ho hI hA => .inl ⟨rfl, brings_move (v := .bool true) (show r 126 = .bool true from hA.1) ⟨hI, Below.refl _ _, rfl⟩⟩, ?_⟩
    refine ⟨fun r wx ho hI hA => .inl ⟨wants_b (show r 127 = .bool true from hA.1), brings_call [.int .i64 (3)] (ent_25) rfl (callF (of_f 3 wx (by decide) (by decide)) fun _ hb => hI.call hb)⟩, ?_⟩
    refine ⟨fun r wx ho hI hA => .inl ⟨wants_b (show r 127 = .bool true from hA.2.1), brings_call [r 128] (ent_29) rfl (callV (show_f _ 3 1 ⟨#[51]⟩ wx hA.1 (by decide) (by decide) (by decide) (by decide) (by decide) (by decide) (by kernel_rfl)) fun _ hb => hI.call hb)⟩, ?_⟩
    refine ⟨fun r wx ho hI hA => .inl ⟨wants_b (show r 127 = .bool true from hA.2.1), brings_bin (v := .bool true) (show r 129 = (.string ⟨#[51]⟩) from hA.1) rfl (by kernel_rfl) ⟨hI, Below.refl _ _, rfl⟩⟩, ?_⟩
    refine ⟨fun r wx ho hI hA => .inl ⟨rfl, brings_pick (b := true) (show r 127 = .bool true from hA.1) ⟨hI, Below.refl _ _, show r 130 = .bool true from hA.2.1⟩⟩, ?_⟩
    refine ⟨fun r wx ho hI hA => .inl ⟨rfl, brings_assign (v := .bool true) (show r 131 = .bool true from hA.1) ⟨hI, Below.refl _ _, rfl⟩⟩, ?_⟩
    exact trivial
  case hend =>
    intro r wz hI hS
    have h0 : r 0 = .bool true := hS 0 (by decide)
    refine (‹∀ (a : Act) (w : World), Code.wp Tryz.prog Code.ret _ a w → _›) _ _ ?_
    refine wp_ret ?_
    refine bodyPost_ret (results_tmp rfl _ _ _) (puts_defers _ _ _) ⟨?_, hI.bel⟩
    rw [puts_read r (by decide) (by simp), h0]
end Go.Proofs.YthlpfhenaakljaaGreatDoor
