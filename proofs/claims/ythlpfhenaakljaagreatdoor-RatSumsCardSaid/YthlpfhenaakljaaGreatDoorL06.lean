/- ref02.Cmp, Len, Bit. ref02.Add, ref02.Sub. ref02.Mul. ref02.Power, Shl, Shr. ref02.Shr. ref06.Gcd. -/
import Derived.Test.YthlpfhenaakljaaGreatDoorL05
namespace Go.Proofs.YthlpfhenaakljaaGreatDoor
open Go.RowKit

theorem db_len_mono16 {m n : Nat} (h : m ≤ n) : (Dg.db 65536 m).length ≤ (Dg.db 65536 n).length :=
  Dg.db_length (by decide) (Nat.lt_of_le_of_lt h (Dg.lt_pow_length (by decide) n))
theorem lt_of_len16 {m n : Nat} (h : (Dg.db 65536 m).length < (Dg.db 65536 n).length) : m < n :=
  Nat.lt_of_not_le fun h2 => by have := db_len_mono16 h2; omega
theorem lt_of_dig16 {m n k : Nat} (h1 : ∀ j, k < j → (Dg.db 65536 m).getD j 0 = (Dg.db 65536 n).getD j 0) (h2 : (Dg.db 65536 m).getD k 0 < (Dg.db 65536 n).getD k 0) : m < n := by
  have := Dg.lt_of_digit (by decide) k _ _ (Dg.db_Ds (by decide) m) (Dg.db_Ds (by decide) n) h1 h2
  rwa [Dg.dv_db (by decide), Dg.dv_db (by decide)] at this

set_option maxRecDepth 100000 in
set_option maxHeartbeats 3200000 in
theorem cmp2_calls (v1 v2 : Value) (xs ys : List Nat) (w : World) (h1 : Nv w v1 xs) (h2 : Nv w v2 ys) (l1 : xs.length ≤ 1048576) (l2 : ys.length ≤ 1048576) :
    Calls Tryz.prog 70 #[v1, v2] w (fun e w' => e = .returned (.int .i64 (Dg.cmpZ (Dg.dv B64 xs) (Dg.dv B64 ys))) ∧ Below w.heap.size w w') := by
  have D1 := Lib.hid (digits_calls v1 xs w h1 l1)
  have D2 := Lib.hid (fun wx (hb : Below w.heap.size w wx) => digits_calls v2 ys wx (h2.below hb) l2)
  have L1 := Lib.hid (dig_len h1.1)
  obtain ⟨_, a1, c1, rfl, _, _⟩ := id h1
  obtain ⟨_, a2, c2, rfl, _, _⟩ := id h2
  clear h1 h2
  generalize Dg.dv B64 xs = X at *
  generalize Dg.dv B64 ys = Y at *
  go_enter Tryz.func70, Tryz.ntmps70
  go_wp2_with fail
  refine D1.out.mono ?_
  rintro e w1 ⟨v1, rfl, hn1, hb1⟩
  obtain ⟨_, a3, c3, rfl, _, _⟩ := id hn1
  have D2 := Lib.hid (D2.out _ hb1)
  have HN1 := Lib.hid hn1
  have HB1 := Lib.hid hb1
  clear hn1 hb1
  go_wp2_with fail
  refine D2.out.mono ?_
  rintro e w2 ⟨v2, rfl, hn2, hb2⟩
  obtain ⟨_, a4, c4, rfl, _, r2⟩ := id hn2
  obtain ⟨_, _, _, e3, _, r1⟩ := HN1.out.below hb2
  obtain ⟨rfl, -, rfl⟩ := Value.slice.inj e3
  clear e3
  have HB2 := Lib.hid (HB1.out.trans (hb2.mono HB1.out.size))
  clear hn2 hb2 HN1
  have hlb : (Dg.db 65536 X).length ≤ 4194304 := by have := L1.out; omega
  by_cases hlen : (Dg.db 65536 X).length = (Dg.db 65536 Y).length
  · have hle : (((Dg.db 65536 X).length : Int) != (Dg.db 65536 Y).length) = false := by simp [hlen]
    go_wp2_with fail
    go_loopw [7] (fun s wr => ∃ k : Nat, k ≤ (Dg.db 65536 X).length ∧ s = .int .i64 ((k : Int) - 1) ∧ (∀ j, k ≤ j → (Dg.db 65536 X).getD j 0 = (Dg.db 65536 Y).getD j 0) ∧ Hid (∃ m, wr = w2.drewN m)) (fun s _ => (intOf s + 1).toNat)
    case atStart => exact ⟨(Dg.db 65536 X).length, Nat.le_refl _, by rw [hlen], fun j hj => by simp [List.getD, show ¬ j < (Dg.db 65536 X).length by omega, show ¬ j < (Dg.db 65536 Y).length by omega], Lib.hid ⟨0, rfl⟩⟩
    case round =>
      obtain ⟨k, hk, rfl, hp, hW⟩ := hrel
      obtain ⟨m0, hW0⟩ := hW.out
      have HBW := Lib.hid (show Below w2.heap.size w2 wr by rw [hW0]; exact below_drewN (Below.refl _ _) _)
      clear hW0
      by_cases hk0 : k = 0
      · subst hk0
        have HE := Lib.hid (show Dg.cmpZ X Y = 0 from Dg.cmpZ_zero.2 (by
          have := Dg.dv_eq_of_getD 65536 (Dg.db 65536 X) (Dg.db 65536 Y) (fun j => hp j (Nat.zero_le _))
          rwa [Dg.dv_db (by decide), Dg.dv_db (by decide)] at this))
        clear hp
        go_wp2_with fail
        go_ret
        exact ⟨by rw [HE.out]; rfl, HB2.out.trans (HBW.out.mono HB2.out.size)⟩
      · obtain ⟨i, rfl⟩ : ∃ i, k = i + 1 := ⟨k - 1, by omega⟩
        have hki : ((i + 1 : Nat) : Int) - 1 = (i : Int) := by omega
        rw [hki]
        rcases r1 with h0 | ⟨b1, o1, rfl, hb1, hcc1⟩
        · exact absurd hk (by simp [h0])
        rcases r2 with h0 | ⟨b2, o2, rfl, hb2, hcc2⟩
        · exact absurd hk (by rw [hlen]; simp [h0])
        have hx1 := (HBW.out.cell (p := ⟨b1, o1 + i, none⟩) hb1).trans (hcc1 i (by omega))
        have hy1 := (HBW.out.cell (p := ⟨b2, o2 + i, none⟩) hb2).trans (hcc2 i (by omega))
        have hil : (i : Int) < (Dg.db 65536 X).length := by omega
        have hil2 : (i : Int) < (Dg.db 65536 Y).length := by omega
        have H1 := Lib.hid (fun h => Dg.cmpZ_lt (lt_of_dig16 (m := X) (n := Y) (k := i) (fun j hj => hp j (by omega)) h))
        have H2 := Lib.hid (fun h => Dg.cmpZ_gt (lt_of_dig16 (m := Y) (n := X) (k := i) (fun j hj => (hp j (by omega)).symm) h))
        have H3 := Lib.hid (show (Dg.db 65536 X).getD i 0 = (Dg.db 65536 Y).getD i 0 → ∀ j, i ≤ j → (Dg.db 65536 X).getD j 0 = (Dg.db 65536 Y).getD j 0 from fun h j hj => by
          rcases Nat.lt_or_ge i j with h2 | h2
          · exact hp j (by omega)
          · obtain rfl : j = i := by omega
            exact h)
        clear hp hcc1 hcc2 hki
        generalize (Dg.db 65536 X).getD i 0 = x at *
        generalize (Dg.db 65536 Y).getD i 0 = y at *
        rcases Nat.lt_trichotomy x y with hlt | heq | hgt
        · have hd : decide ((x : Int) < y) = true := by simp; omega
          have HE := Lib.hid (H1.out hlt)
          go_wp2_with fail
          go_quiet (fail)
          go_wp2_with fail
          go_ret
          exact ⟨by rw [HE.out]; rfl, below_drewN (HB2.out.trans (HBW.out.mono HB2.out.size)) _⟩
        · have hd : decide ((x : Int) < y) = false := by simp; omega
          have hd2 : decide ((x : Int) > y) = false := by simp; omega
          have HE := Lib.hid (H3.out heq)
          go_wp2_with fail
          go_quiet (fail)
          go_wp2_with fail
          go_quiet (fail)
          go_wp2_with fail
          go_roundw
          case rel =>
            obtain ⟨m, hm⟩ := hW.out
            exact ⟨i, by omega, by go_num, HE.out, Lib.hid ⟨_, by rw [hm, World.drewN_drewN]⟩⟩
          case measure => simp only [intOf]; omega
        · have hd : decide ((x : Int) < y) = false := by simp; omega
          have hd2 : decide ((x : Int) > y) = true := by simp; omega
          have HE := Lib.hid (H2.out hgt)
          go_wp2_with fail
          go_quiet (fail)
          go_wp2_with fail
          go_quiet (fail)
          go_wp2_with fail
          go_ret
          exact ⟨by rw [HE.out]; rfl, below_drewN (below_drewN (HB2.out.trans (HBW.out.mono HB2.out.size)) _) _⟩
  · have hle : (((Dg.db 65536 X).length : Int) != (Dg.db 65536 Y).length) = true := by simp; omega
    rcases Nat.lt_or_ge (Dg.db 65536 X).length (Dg.db 65536 Y).length with hlt | hge
    · have HE := Lib.hid (Dg.cmpZ_lt (lt_of_len16 hlt))
      go_wp2_with fail
      go_ret
      exact ⟨by rw [HE.out]; rfl, HB2.out⟩
    · have HE := Lib.hid (Dg.cmpZ_gt (lt_of_len16 (show (Dg.db 65536 Y).length < (Dg.db 65536 X).length by omega)))
      go_wp2_with fail
      go_ret
      exact ⟨by rw [HE.out]; rfl, HB2.out⟩

theorem top16 {V : Nat} (h : V ≠ 0) : (Dg.db 65536 V).length ≠ 0 ∧ (Dg.db 65536 V).getD ((Dg.db 65536 V).length - 1) 0 ≠ 0 ∧ Dg.bl V = 16 * ((Dg.db 65536 V).length - 1) + Dg.bl ((Dg.db 65536 V).getD ((Dg.db 65536 V).length - 1) 0) := by
  have h0 : (Dg.db 65536 V).length ≠ 0 := fun h0 => h ((Dg.db_nil_iff (by decide)).1 (List.eq_nil_of_length_eq_zero h0))
  have h1 : (Dg.db 65536 V).getD ((Dg.db 65536 V).length - 1) 0 ≠ 0 := by
    rw [db_digit]
    have hlt := Dg.lt_pow_length (b := 65536) (by decide) V
    have hge : 65536 ^ ((Dg.db 65536 V).length - 1) ≤ V := Nat.le_of_not_lt fun hlt2 => by
      have := Dg.db_length (b := 65536) (by decide) hlt2
      omega
    have e : (65536 : Nat) ^ (Dg.db 65536 V).length = 65536 ^ ((Dg.db 65536 V).length - 1) * 65536 := by rw [← Nat.pow_succ]; congr 1; omega
    rw [e] at hlt
    have hp : 0 < (65536 : Nat) ^ ((Dg.db 65536 V).length - 1) := Nat.pow_pos (by decide)
    rw [Nat.mod_eq_of_lt ((Nat.div_lt_iff_lt_mul hp).2 (by rw [Nat.mul_comm]; exact hlt))]
    have := Nat.div_pos hge hp
    omega
  refine ⟨h0, h1, ?_⟩
  have hz : ∀ j, (Dg.db 65536 V).length - 1 < j → (Dg.db 65536 V).getD j 0 = 0 := fun j hj => by simp [List.getD, show ¬ j < (Dg.db 65536 V).length by omega]
  have := Dg.bl_dv (s := 16) (Dg.db 65536 V) (Dg.db_Ds (b := 65536) (by decide) V) _ hz h1
  rwa [show (2 : Nat) ^ 16 = 65536 by decide, Dg.dv_db (by decide)] at this

theorem bl_half2 {x : Nat} (h : x ≠ 0) : Dg.bl x = 1 + Dg.bl (x / 2) := by
  by_cases h1 : x / 2 = 0
  · rw [h1, Dg.bl_zero, Dg.bl_small (by omega)]; omega
  · have := Dg.bl_shift (n := x) (s := 1) (by simpa using h1)
    simpa using this

set_option maxRecDepth 100000 in
set_option maxHeartbeats 3200000 in
theorem len2_calls (v : Value) (xs : List Nat) (w : World) (hv : Nv w v xs) (hl : xs.length ≤ 1048576) :
    Calls Tryz.prog 109 #[v] w (fun e w' => e = .returned (.int .i64 (Dg.bl (Dg.dv B64 xs) : Nat)) ∧ Below w.heap.size w w') := by
  have D1 := Lib.hid (digits_calls v xs w hv hl)
  have L1 := Lib.hid (dig_len hv.1)
  obtain ⟨_, a1, c1, rfl, _, _⟩ := id hv
  clear hv
  generalize Dg.dv B64 xs = V at *
  go_enter Tryz.func109, Tryz.ntmps109
  go_wp2_with fail
  refine D1.out.mono ?_
  rintro e w1 ⟨v1, rfl, hn1, hb1⟩
  obtain ⟨_, a3, c3, rfl, _, r1⟩ := id hn1
  have HB := Lib.hid hb1
  clear hn1 hb1
  have hlb : (Dg.db 65536 V).length ≤ 4194304 := by have := L1.out; omega
  by_cases h0 : V = 0
  · subst h0
    rw [Dg.db_zero, List.length_nil]
    go_wp2_with fail
    go_ret
    exact ⟨rfl, HB.out⟩
  · obtain ⟨t1, t2, t3⟩ := top16 h0
    obtain ⟨n, hn⟩ : ∃ n, (Dg.db 65536 V).length = n + 1 := ⟨(Dg.db 65536 V).length - 1, by omega⟩
    rcases r1 with h1 | ⟨b, off, rfl, hb, hc⟩
    · simp [h1] at t1
    have hcn := hc n (by omega)
    rw [hn, Nat.add_sub_cancel] at t3
    have hne : (((n + 1 : Nat) : Int) == 0) = false := by simp; omega
    have hlt : (Dg.db 65536 V).getD n 0 < 65536 := Dg.Ds.getD (by decide) (Dg.db_Ds (by decide) V) n
    rw [hn] at hlb ⊢
    have HT := Lib.hid t3
    clear hc t1 t2 t3 hn
    generalize (Dg.db 65536 V).getD n 0 = x at *
    have hn1 : ((n + 1 : Nat) : Int) - 1 = n := by omega
    have hn2 : IntKind.i64.wrap (((n + 1 : Nat) : Int) - 1) = n := by rw [hn1, IntKind.wrap_i64]; omega
    have hn3 : (n : Int) < ((n + 1 : Nat) : Int) := by omega
    go_wp2_with fail
    go_loop [4, 5] (fun s y => ∃ k z : Nat, s = .int .i64 k ∧ y = .int .u64 z ∧ k ≤ 67108880 ∧ Hid (k + Dg.bl z = Dg.bl V) ∧ z < 65536) (fun _ y => (intOf y).toNat)
    case atStart => exact ⟨16 * n, x, by push_cast; rfl, rfl, by omega, Lib.hid (by rw [HT.out]), hlt⟩
    case round =>
      obtain ⟨k, z, rfl, rfl, hk, hrel, hz⟩ := hrel
      by_cases hz0 : z = 0
      · subst hz0
        have HE := Lib.hid (show Dg.bl V = k by have := hrel.out; rw [Dg.bl_zero] at this; omega)
        go_wp2_with fail
        go_ret
        exact ⟨by rw [HE.out]; rfl, HB.out⟩
      · have hgt : (z : Int) > 0 := by omega
        have HE := Lib.hid (bl_half2 hz0)
        have hkb : k ≤ 67108879 := by
          have h1 := hrel.out
          have h2 : 0 < Dg.bl z := Dg.bl_pos hz0
          have h3 : Dg.bl V ≤ 67108880 := by rw [HT.out]; have := Dg.bl_le (n := x) (k := 16) hlt; omega
          omega
        have hwz : IntKind.u64.wrap ((z : Int) / 2) = (z : Int) / 2 := by rw [IntKind.wrap_u64]; omega
        go_wp2_with fail
        go_round
        case rel => exact ⟨k + 1, z / 2, by go_num, by rw [show (z : Int) / 2 = ((z / 2 : Nat) : Int) from by omega], by omega, Lib.hid (by rw [← hrel.out, HE.out]; omega), by omega⟩
        case measure => simp only [intOf]; omega

set_option maxRecDepth 100000 in
set_option maxHeartbeats 3200000 in
theorem bit2_calls (v : Value) (xs : List Nat) (n : Nat) (N : Int) (hN : N = (n : Int)) (w : World) (hv : Nv w v xs) (hl : xs.length ≤ 1048576) (hnl : n ≤ 1099511627776) :
    Calls Tryz.prog 104 #[v, .int .i64 N] w (fun e w' => e = .returned (.bool (decide (Dg.dv B64 xs / 2 ^ n % 2 = 1))) ∧ Below w.heap.size w w') := by
  subst hN
  have D1 := Lib.hid (digits_calls v xs w hv hl)
  obtain ⟨_, a1, c1, rfl, _, _⟩ := id hv
  clear hv
  generalize Dg.dv B64 xs = V at *
  go_enter Tryz.func104, Tryz.ntmps104
  go_wp2_with fail
  refine D1.out.mono ?_
  rintro e w1 ⟨v1, rfl, hn1, hb1⟩
  obtain ⟨_, a3, c3, rfl, _, r1⟩ := id hn1
  have HB := Lib.hid hb1
  clear hn1 hb1
  have hdn : (n : Int) / 16 = ((n / 16 : Nat) : Int) := by omega
  have hmn : (n : Int) % 16 = ((n % 16 : Nat) : Int) := by omega
  have hnn : ¬ ((n : Int) < 0) := by omega
  by_cases hin : n / 16 < (Dg.db 65536 V).length
  · rcases r1 with h1 | ⟨b, off, rfl, hb, hc⟩
    · simp [h1] at hin
    have hcn := hc (n / 16) hin
    have HV := Lib.hid (Dg.bit_digit V n)
    rw [db_digit] at hcn
    have hlt : V / 65536 ^ (n / 16) % 65536 < 65536 := Nat.mod_lt _ (by decide)
    have hil : ((n / 16 : Nat) : Int) < (Dg.db 65536 V).length := by omega
    have hil2 : ¬ (((n / 16 : Nat) : Int) ≥ (Dg.db 65536 V).length) := by omega
    have hq0 : (0 : Int) ≤ ((n / 16 : Nat) : Int) := by omega
    clear hc
    generalize V / 65536 ^ (n / 16) % 65536 = y at *
    have hr16 : n % 16 < 16 := Nat.mod_lt _ (by decide)
    generalize n / 16 = q at *
    generalize n % 16 = r at *
    go_wp2_with fail
    go_loop [6, 7] (fun u s => ∃ k z : Nat, k ≤ r ∧ s = .int .i64 k ∧ u = .int .u64 z ∧ z < 65536 ∧ Hid (z = y / 2 ^ k)) (fun _ s => r - (intOf s).toNat)
    case atStart => exact ⟨0, y, Nat.zero_le _, rfl, rfl, hlt, Lib.hid (by simp)⟩
    case round =>
      obtain ⟨k, z, hk, rfl, rfl, hz, hrel⟩ := hrel
      by_cases hkr : k < r
      · have hwz : IntKind.u64.wrap ((z : Int) / 2) = (z : Int) / 2 := by rw [IntKind.wrap_u64]; omega
        go_wp2_with fail
        go_round
        case rel => exact ⟨k + 1, z / 2, hkr, by go_num, by rw [show (z : Int) / 2 = ((z / 2 : Nat) : Int) from by omega], by omega, Lib.hid (by rw [hrel.out, Nat.div_div_eq_div_mul, Nat.pow_succ])⟩
        case measure => simp only [intOf]; omega
      · have hkr2 : k = r := by omega
        have HE := Lib.hid (show decide (V / 2 ^ n % 2 = 1) = decide ((z : Int) % 2 = 1) by
          rw [← HV.out, ← hkr2, ← hrel.out, Bool.eq_iff_iff]
          simp only [decide_eq_true_eq]
          omega)
        have hkr3 : ¬ ((k : Int) < r) := by omega
        go_wp2_with fail
        go_ret
        exact ⟨by rw [HE.out]; rfl, HB.out⟩
  · have HE := Lib.hid (show decide (V / 2 ^ n % 2 = 1) = false by
      have h1 := Dg.lt_pow_length (b := 65536) (by decide) V
      have h2 : (65536 : Nat) ^ (Dg.db 65536 V).length ≤ 65536 ^ (n / 16) := Nat.pow_le_pow_right (by decide) (by omega)
      have h3 : (65536 : Nat) ^ (n / 16) ≤ 2 ^ n := by
        rw [show (65536 : Nat) = 2 ^ 16 by decide, ← Nat.pow_mul]
        exact Nat.pow_le_pow_right (by decide) (by omega)
      rw [Nat.div_eq_of_lt (show V < 2 ^ n by omega)]
      rfl)
    have hil2 : ((n / 16 : Nat) : Int) ≥ (Dg.db 65536 V).length := by omega
    clear hmn hin
    generalize n / 16 = q at *
    go_wp2_with fail
    go_ret
    exact ⟨by rw [HE.out]; rfl, HB.out⟩

end Go.Proofs.YthlpfhenaakljaaGreatDoor

namespace Go.Proofs.YthlpfhenaakljaaGreatDoor
open Go.RowKit

theorem subat_done {X Y k : Nat} {R : List Nat} {c : Nat} (h : Dg.SubAt 65536 (Dg.db 65536 X) (Dg.db 65536 Y) k R c) (h1 : (Dg.db 65536 X).length ≤ k) (hle : Y ≤ X) : Dg.dv 65536 R = X - Y := by
  have := h.done (by decide) h1 (Nat.le_trans (db_len_mono16 hle) h1) (by rw [Dg.dv_db (by decide), Dg.dv_db (by decide)]; exact hle)
  rwa [Dg.dv_db (by decide), Dg.dv_db (by decide)] at this

theorem addat_done {X Y k : Nat} {R : List Nat} (h : Dg.AddAt 65536 (Dg.db 65536 X) (Dg.db 65536 Y) k R 0) (h1 : (Dg.db 65536 X).length ≤ k) (h2 : (Dg.db 65536 Y).length ≤ k) : Dg.dv 65536 R = X + Y := by
  obtain ⟨_, _, _, h⟩ := h
  rw [List.take_of_length_le h1, List.take_of_length_le h2, Dg.dv_db (by decide), Dg.dv_db (by decide), Nat.mul_zero, Nat.add_zero] at h
  exact h

set_option maxRecDepth 100000 in
set_option maxHeartbeats 6400000 in
theorem add2_calls (v1 v2 : Value) (xs ys : List Nat) (w : World) (h1 : Nv w v1 xs) (h2 : Nv w v2 ys) (l1 : xs.length ≤ 1048576) (l2 : ys.length ≤ 1048576) :
    Calls Tryz.prog 69 #[v1, v2] w (RetN (Dg.db B64 (Dg.dv B64 xs + Dg.dv B64 ys)) w) := by
  obtain ⟨i0, hi, hz0, hz1, hz2⟩ := info_parts info_u64
  have D1 := Lib.hid (fun wx (hb : Below w.heap.size w wx) => digits_calls v1 xs wx (h1.below hb) l1)
  have D2 := Lib.hid (fun wx (hb : Below w.heap.size w wx) => digits_calls v2 ys wx (h2.below hb) l2)
  have L1 := Lib.hid (dig_len h1.1)
  have L2 := Lib.hid (dig_len h2.1)
  obtain ⟨_, a1, c1, rfl, _, _⟩ := id h1
  obtain ⟨_, a2, c2, rfl, _, _⟩ := id h2
  clear h1 h2
  generalize Dg.dv B64 xs = X at *
  generalize Dg.dv B64 ys = Y at *
  go_enter Tryz.func69, Tryz.ntmps69
  go_wp2_with fail
  refine (D1.out _ (Below.refl _ _)).mono ?_
  rintro e w1 ⟨v1, rfl, hn1, hb1⟩
  obtain ⟨_, a3, c3, rfl, _, _⟩ := id hn1
  have HB1 := Lib.hid hb1
  have HN1 := Lib.hid hn1
  clear hn1 hb1
  go_wp2_with fail
  refine (D2.out _ HB1.out).mono ?_
  rintro e w2 ⟨v2, rfl, hn2, hb2⟩
  obtain ⟨_, a4, c4, rfl, _, r2⟩ := id hn2
  obtain ⟨_, _, _, e3, _, r1⟩ := HN1.out.below hb2
  obtain ⟨rfl, -, rfl⟩ := Value.slice.inj e3
  clear e3
  have HB2 := Lib.hid (HB1.out.trans (hb2.mono HB1.out.size))
  clear hn2 hb2 HN1
  have hlx : (Dg.db 65536 X).length ≤ 4194304 := by have := L1.out; omega
  have hly : (Dg.db 65536 Y).length ≤ 4194304 := by have := L2.out; omega
  have hdx := Dg.db_Ds (b := 65536) (by decide) X
  have hdy := Dg.db_Ds (b := 65536) (by decide) Y
  generalize hMM : max (Dg.db 65536 X).length (Dg.db 65536 Y).length = M at *
  have hM : M ≤ 4194304 ∧ (Dg.db 65536 X).length ≤ M ∧ (Dg.db 65536 Y).length ≤ M := by omega
  clear hMM
  go_wp2_with fail
  go_loopw [7, 8, 9] (fun u c s wr => ∃ k cc : Nat, ∃ R, k ≤ M + 1 ∧ s = .int .i64 k ∧ c = .int .u64 cc ∧ cc ≤ 1 ∧ (k ≤ M ∨ cc = 0) ∧ Hid (Dg.AddAt 65536 (Dg.db 65536 X) (Dg.db 65536 Y) k R cc) ∧ Hid (Own w2 u R wr)) (fun _ _ s _ => M + 1 - (intOf s).toNat)
  case atStart => exact ⟨0, 0, [], by omega, rfl, rfl, by omega, .inl (by omega), Lib.hid (Dg.AddAt.start _ _ _), Lib.hid (Own.nil w2)⟩
  case round =>
    obtain ⟨k, cc, R, hk, rfl, rfl, hcc, hkM, hA, hO⟩ := hrel
    have HLR := Lib.hid (show R.length ≤ 4194306 by have := hA.out.1; omega)
    have hstep := Lib.hid (hA.out.step (by decide) hdx hdy)
    have hxk := Dg.Ds.getD (by decide) hdx k
    have hyk := Dg.Ds.getD (by decide) hdy k
    have HOB := Lib.hid hO.out.2
    by_cases hkx : k < (Dg.db 65536 X).length
    · by_cases hky : k < (Dg.db 65536 Y).length
      · rcases r1 with h0 | ⟨b1, o1, rfl, hb1, hcc1⟩
        · simp [h0] at hkx
        have hx1 := (HOB.out.cell (p := ⟨b1, o1 + k, none⟩) hb1).trans (hcc1 k hkx)
        clear hcc1
        rcases r2 with h0 | ⟨b2, o2, rfl, hb2, hcc2⟩
        · simp [h0] at hky
        have hy1 := (HOB.out.cell (p := ⟨b2, o2 + k, none⟩) hb2).trans (hcc2 k hky)
        clear hcc2
        generalize (Dg.db 65536 X).getD k 0 = x at *
        generalize (Dg.db 65536 Y).getD k 0 = y at *
        have hw1 : IntKind.u64.wrap ((cc : Int) + x) = (cc : Int) + x := by rw [IntKind.wrap_u64]; omega
        have hw2 : IntKind.u64.wrap ((cc : Int) + x + y) = (cc : Int) + x + y := by rw [IntKind.wrap_u64]; omega
        have hw3 : IntKind.u64.wrap (((cc : Int) + x + y) / 65536) = ((cc : Int) + x + y) / 65536 := by rw [IntKind.wrap_u64]; omega
        have hlX : (k : Int) < (Dg.db 65536 X).length := by omega
        have hlY : (k : Int) < (Dg.db 65536 Y).length := by omega
        go_wp2_with (at_builtin; refine wpList_append_own _ rfl _ _ 22 rfl w2.heap.size 43 i0 (.int .u64 0) 1 8 und_u64s hi hz0 hz1 hz2 rfl (by decide) _ R.length (us R) rfl (hO.out.alloc _).1.2 ⟨wr.heap.size, 0, none⟩ 1 1 _ rfl rfl (lit_news _ _) (lit_one _) ?c3 ?c4 ?c5 ?_)
        case c3 => have := HLR.out; unfold maxLen; omega
        case c4 => have := HLR.out; omega
        case c5 => have := hO.out.2.size; simp; omega
        intro v' w1 hown hg _
        have HO3 := Lib.hid (Own.append hO.out (Nat.lt_of_lt_of_le (Nat.mod_lt (x + y + min cc 1) (by decide : 0 < 65536)) (by decide : 65536 ≤ B64)) _ _ (by omega) hown hg)
        clear hown hg
        go_wp2_with fail
        go_roundw
        case rel => exact ⟨k + 1, (x + y + min cc 1) / 65536, R ++ [(x + y + min cc 1) % 65536], by omega, by go_num, congrArg _ (by omega), by omega, by omega, hstep, HO3⟩
        case measure => simp only [intOf]; omega
      · rcases r1 with h0 | ⟨b1, o1, rfl, hb1, hcc1⟩
        · simp [h0] at hkx
        have hx1 := (HOB.out.cell (p := ⟨b1, o1 + k, none⟩) hb1).trans (hcc1 k hkx)
        clear hcc1
        have hy0 : (Dg.db 65536 Y).getD k 0 = 0 := by simp [List.getD, hky]
        rw [hy0] at hstep
        generalize (Dg.db 65536 X).getD k 0 = x at *
        generalize (Dg.db 65536 Y).getD k 0 = y at *
        have hw1 : IntKind.u64.wrap ((cc : Int) + x) = (cc : Int) + x := by rw [IntKind.wrap_u64]; omega
        have hw3 : IntKind.u64.wrap (((cc : Int) + x) / 65536) = ((cc : Int) + x) / 65536 := by rw [IntKind.wrap_u64]; omega
        have hlX : (k : Int) < (Dg.db 65536 X).length := by omega
        have hlY : ¬ ((k : Int) < (Dg.db 65536 Y).length) := by omega
        go_wp2_with (at_builtin; refine wpList_append_own _ rfl _ _ 22 rfl w2.heap.size 43 i0 (.int .u64 0) 1 8 und_u64s hi hz0 hz1 hz2 rfl (by decide) _ R.length (us R) rfl (hO.out.alloc _).1.2 ⟨wr.heap.size, 0, none⟩ 1 1 _ rfl rfl (lit_news _ _) (lit_one _) ?c3 ?c4 ?c5 ?_)
        case c3 => have := HLR.out; unfold maxLen; omega
        case c4 => have := HLR.out; omega
        case c5 => have := hO.out.2.size; simp; omega
        intro v' w1 hown hg _
        have HO3 := Lib.hid (Own.append hO.out (Nat.lt_of_lt_of_le (Nat.mod_lt (x + 0 + min cc 1) (by decide : 0 < 65536)) (by decide : 65536 ≤ B64)) _ _ (by omega) hown hg)
        clear hown hg
        go_wp2_with fail
        go_roundw
        case rel => exact ⟨k + 1, (x + 0 + min cc 1) / 65536, R ++ [(x + 0 + min cc 1) % 65536], by omega, by go_num, congrArg _ (by omega), by omega, by omega, hstep, HO3⟩
        case measure => simp only [intOf]; omega
    · by_cases hky : k < (Dg.db 65536 Y).length
      · have hx0 : (Dg.db 65536 X).getD k 0 = 0 := by simp [List.getD, hkx]
        rw [hx0] at hstep
        rcases r2 with h0 | ⟨b2, o2, rfl, hb2, hcc2⟩
        · simp [h0] at hky
        have hy1 := (HOB.out.cell (p := ⟨b2, o2 + k, none⟩) hb2).trans (hcc2 k hky)
        clear hcc2
        generalize (Dg.db 65536 X).getD k 0 = x at *
        generalize (Dg.db 65536 Y).getD k 0 = y at *
        have hw2 : IntKind.u64.wrap ((cc : Int) + y) = (cc : Int) + y := by rw [IntKind.wrap_u64]; omega
        have hw3 : IntKind.u64.wrap (((cc : Int) + y) / 65536) = ((cc : Int) + y) / 65536 := by rw [IntKind.wrap_u64]; omega
        have hlX : ¬ ((k : Int) < (Dg.db 65536 X).length) := by omega
        have hlY : (k : Int) < (Dg.db 65536 Y).length := by omega
        go_wp2_with (at_builtin; refine wpList_append_own _ rfl _ _ 22 rfl w2.heap.size 43 i0 (.int .u64 0) 1 8 und_u64s hi hz0 hz1 hz2 rfl (by decide) _ R.length (us R) rfl (hO.out.alloc _).1.2 ⟨wr.heap.size, 0, none⟩ 1 1 _ rfl rfl (lit_news _ _) (lit_one _) ?c3 ?c4 ?c5 ?_)
        case c3 => have := HLR.out; unfold maxLen; omega
        case c4 => have := HLR.out; omega
        case c5 => have := hO.out.2.size; simp; omega
        intro v' w1 hown hg _
        have HO3 := Lib.hid (Own.append hO.out (Nat.lt_of_lt_of_le (Nat.mod_lt (0 + y + min cc 1) (by decide : 0 < 65536)) (by decide : 65536 ≤ B64)) _ _ (by omega) hown hg)
        clear hown hg
        go_wp2_with fail
        go_roundw
        case rel => exact ⟨k + 1, (0 + y + min cc 1) / 65536, R ++ [(0 + y + min cc 1) % 65536], by omega, by go_num, congrArg _ (by omega), by omega, by omega, hstep, HO3⟩
        case measure => simp only [intOf]; omega
      · have hx0 : (Dg.db 65536 X).getD k 0 = 0 := by simp [List.getD, hkx]
        rw [hx0] at hstep
        have hy0 : (Dg.db 65536 Y).getD k 0 = 0 := by simp [List.getD, hky]
        rw [hy0] at hstep
        generalize (Dg.db 65536 X).getD k 0 = x at *
        generalize (Dg.db 65536 Y).getD k 0 = y at *
        have hw3 : IntKind.u64.wrap (((cc : Int)) / 65536) = ((cc : Int)) / 65536 := by rw [IntKind.wrap_u64]; omega
        by_cases hc0 : cc = 0
        · subst hc0
          have HE := Lib.hid (show Dg.dv 65536 R = X + Y from addat_done hA.out (by omega) (by omega))
          have HDS := Lib.hid hA.out.2.1
          have HJ := Lib.hid (join_calls _ _ wr hO.out.1.nv HDS.out (by have := HLR.out; omega))
          rw [HE.out] at HJ
          obtain ⟨a9, c9, rfl⟩ := hO.out.1.slice
          go_wp2_with fail
          refine HJ.out.mono ?_
          rintro e w5 ⟨v', rfl, hn, hb⟩
          obtain ⟨a8, c8, rfl⟩ := hn.slice
          have HN := Lib.hid (hn.mono (Nat.le_trans HB2.out.size hO.out.2.size))
          have HB5 := Lib.hid (HB2.out.trans ((hO.out.2.trans (hb.mono hO.out.2.size)).mono HB2.out.size))
          clear hn hb
          go_wp2_with fail
          go_ret
          exact ⟨_, rfl, HN.out, HB5.out⟩
        · have hcp : (cc : Int) > 0 := by omega
          have hlX : ¬ ((k : Int) < (Dg.db 65536 X).length) := by omega
          have hlY : ¬ ((k : Int) < (Dg.db 65536 Y).length) := by omega
          go_wp2_with (at_builtin; refine wpList_append_own _ rfl _ _ 22 rfl w2.heap.size 43 i0 (.int .u64 0) 1 8 und_u64s hi hz0 hz1 hz2 rfl (by decide) _ R.length (us R) rfl (hO.out.alloc _).1.2 ⟨wr.heap.size, 0, none⟩ 1 1 _ rfl rfl (lit_news _ _) (lit_one _) ?c3 ?c4 ?c5 ?_)
          case c3 => have := HLR.out; unfold maxLen; omega
          case c4 => have := HLR.out; omega
          case c5 => have := hO.out.2.size; simp; omega
          intro v' w1 hown hg _
          have HO3 := Lib.hid (Own.append hO.out (Nat.lt_of_lt_of_le (Nat.mod_lt (0 + 0 + min cc 1) (by decide : 0 < 65536)) (by decide : 65536 ≤ B64)) _ _ (by omega) hown hg)
          clear hown hg
          go_wp2_with fail
          go_roundw
          case rel => exact ⟨k + 1, (0 + 0 + min cc 1) / 65536, R ++ [(0 + 0 + min cc 1) % 65536], by omega, by go_num, congrArg _ (by omega), by omega, by omega, hstep, HO3⟩
          case measure => simp only [intOf]; omega

set_option maxRecDepth 100000 in
set_option maxHeartbeats 6400000 in
theorem sub2_calls (v1 v2 : Value) (xs ys : List Nat) (w : World) (h1 : Nv w v1 xs) (h2 : Nv w v2 ys) (l1 : xs.length ≤ 1048576) (l2 : ys.length ≤ 1048576) (hle : Dg.dv B64 ys ≤ Dg.dv B64 xs) :
    Calls Tryz.prog 71 #[v1, v2] w (fun e w' => ∃ v, e = .returned (.tuple #[v, .int .i64 0]) ∧ No w.heap.size w' v (Dg.db B64 (Dg.dv B64 xs - Dg.dv B64 ys)) ∧ Below w.heap.size w w') := by
  obtain ⟨i0, hi, hz0, hz1, hz2⟩ := info_parts info_u64
  have CM := Lib.hid (cmp2_calls v1 v2 xs ys w h1 h2 l1 l2)
  have HLE := Lib.hid hle
  have hcz := Dg.cmpZ_nonneg.2 hle
  clear hle
  have D1 := Lib.hid (fun wx (hb : Below w.heap.size w wx) => digits_calls v1 xs wx (h1.below hb) l1)
  have D2 := Lib.hid (fun wx (hb : Below w.heap.size w wx) => digits_calls v2 ys wx (h2.below hb) l2)
  have L1 := Lib.hid (dig_len h1.1)
  have L2 := Lib.hid (dig_len h2.1)
  obtain ⟨_, a1, c1, rfl, _, _⟩ := id h1
  obtain ⟨_, a2, c2, rfl, _, _⟩ := id h2
  clear h1 h2
  generalize Dg.dv B64 xs = X at *
  generalize Dg.dv B64 ys = Y at *
  go_enter Tryz.func71, Tryz.ntmps71
  have hcz2 : ¬ (Dg.cmpZ X Y < 0) := by omega
  clear hcz
  generalize Dg.cmpZ X Y = cz at *
  go_wp2_with fail
  refine CM.out.mono ?_
  rintro e w0 ⟨rfl, hb0⟩
  have HB0 := Lib.hid hb0
  clear hb0
  go_wp2_with fail
  refine (D1.out _ HB0.out).mono ?_
  rintro e w1 ⟨v1, rfl, hn1, hb1⟩
  obtain ⟨_, a3, c3, rfl, _, _⟩ := id hn1
  have HB1 := Lib.hid (HB0.out.trans (hb1.mono HB0.out.size))
  have HN1 := Lib.hid hn1
  clear hn1 hb1
  go_wp2_with fail
  refine (D2.out _ HB1.out).mono ?_
  rintro e w2 ⟨v2, rfl, hn2, hb2⟩
  obtain ⟨_, a4, c4, rfl, _, r2⟩ := id hn2
  obtain ⟨_, _, _, e3, _, r1⟩ := HN1.out.below hb2
  obtain ⟨rfl, -, rfl⟩ := Value.slice.inj e3
  clear e3
  have HB2 := Lib.hid (HB1.out.trans (hb2.mono HB1.out.size))
  clear hn2 hb2 HN1
  have hlx : (Dg.db 65536 X).length ≤ 4194304 := by have := L1.out; omega
  have hly : (Dg.db 65536 Y).length ≤ 4194304 := by have := L2.out; omega
  have hdx := Dg.db_Ds (b := 65536) (by decide) X
  have hdy := Dg.db_Ds (b := 65536) (by decide) Y
  go_wp2_with fail
  go_loopw [8, 9, 10] (fun u c s wr => ∃ k cc : Nat, ∃ R, k ≤ (Dg.db 65536 X).length ∧ s = .int .i64 k ∧ c = .int .u64 cc ∧ cc ≤ 1 ∧ Hid (Dg.SubAt 65536 (Dg.db 65536 X) (Dg.db 65536 Y) k R cc) ∧ Hid (Own w2 u R wr)) (fun _ _ s _ => (Dg.db 65536 X).length - (intOf s).toNat)
  case atStart => exact ⟨0, 0, [], by omega, rfl, rfl, by omega, Lib.hid (Dg.SubAt.start _ _ _), Lib.hid (Own.nil w2)⟩
  case round =>
    obtain ⟨k, cc, R, hk, rfl, rfl, hcc, hA, hO⟩ := hrel
    have HLR := Lib.hid (show R.length ≤ 4194306 by have := hA.out.1; omega)
    have hstep := Lib.hid (hA.out.step (by decide) hdx hdy)
    have hxk := Dg.Ds.getD (by decide) hdx k
    have hyk := Dg.Ds.getD (by decide) hdy k
    have HOB := Lib.hid hO.out.2
    by_cases hkx : k < (Dg.db 65536 X).length
    · rcases r1 with h0 | ⟨b1, o1, rfl, hb1, hcc1⟩
      · simp [h0] at hkx
      have hx1 := (HOB.out.cell (p := ⟨b1, o1 + k, none⟩) hb1).trans (hcc1 k hkx)
      clear hcc1
      have hlX : (k : Int) < (Dg.db 65536 X).length := by omega
      by_cases hky : k < (Dg.db 65536 Y).length
      · rcases r2 with h0 | ⟨b2, o2, rfl, hb2, hcc2⟩
        · simp [h0] at hky
        have hy1 := (HOB.out.cell (p := ⟨b2, o2 + k, none⟩) hb2).trans (hcc2 k hky)
        clear hcc2
        have hlY : (k : Int) < (Dg.db 65536 Y).length := by omega
        generalize (Dg.db 65536 X).getD k 0 = x at *
        generalize (Dg.db 65536 Y).getD k 0 = y at *
        have hw1 : IntKind.u64.wrap ((cc : Int) + y) = (cc : Int) + y := by rw [IntKind.wrap_u64]; omega
        by_cases hlt : x < y + min cc 1
        · have hd : decide ((x : Int) < ((cc : Int) + y)) = true := by simp; omega
          have hw2 : IntKind.u64.wrap ((x : Int) + 65536) = (x : Int) + 65536 := by rw [IntKind.wrap_u64]; omega
          have hw3 : IntKind.u64.wrap ((x : Int) + 65536 - ((cc : Int) + y)) = (x : Int) + 65536 - ((cc : Int) + y) := by rw [IntKind.wrap_u64]; omega
          have hst := hstep.out
          rw [if_pos hlt] at hst
          have hstep := Lib.hid hst
          clear hst
          go_wp2_with (at_builtin; refine wpList_append_own _ rfl _ _ 22 rfl w2.heap.size 43 i0 (.int .u64 0) 1 8 und_u64s hi hz0 hz1 hz2 rfl (by decide) _ R.length (us R) rfl (hO.out.alloc _).1.2 ⟨wr.heap.size, 0, none⟩ 1 1 _ rfl rfl (lit_news _ _) (lit_one _) ?c3 ?c4 ?c5 ?_)
          case c3 => have := HLR.out; unfold maxLen; omega
          case c4 => have := HLR.out; omega
          case c5 => have := hO.out.2.size; simp; omega
          intro v' w1 hown hg _
          have HO3 := Lib.hid (Own.append hO.out (Nat.lt_of_lt_of_le (Nat.mod_lt (x + 65536 - y - min cc 1) (by decide : 0 < 65536)) (by decide : 65536 ≤ B64)) _ _ (by omega) hown hg)
          clear hown hg
          go_wp2_with fail
          go_roundw
          case rel => exact ⟨k + 1, 1, R ++ [((x + 65536 - y - min cc 1) % 65536)], by omega, by go_num, rfl, by omega, hstep, HO3⟩
          case measure => simp only [intOf]; omega
        · have hd : decide ((x : Int) < ((cc : Int) + y)) = false := by simp; omega
          have hw3 : IntKind.u64.wrap ((x : Int) - ((cc : Int) + y)) = (x : Int) - ((cc : Int) + y) := by rw [IntKind.wrap_u64]; omega
          have hst := hstep.out
          rw [if_neg hlt] at hst
          have hstep := Lib.hid hst
          clear hst
          go_wp2_with (at_builtin; refine wpList_append_own _ rfl _ _ 22 rfl w2.heap.size 43 i0 (.int .u64 0) 1 8 und_u64s hi hz0 hz1 hz2 rfl (by decide) _ R.length (us R) rfl (hO.out.alloc _).1.2 ⟨wr.heap.size, 0, none⟩ 1 1 _ rfl rfl (lit_news _ _) (lit_one _) ?c3 ?c4 ?c5 ?_)
          case c3 => have := HLR.out; unfold maxLen; omega
          case c4 => have := HLR.out; omega
          case c5 => have := hO.out.2.size; simp; omega
          intro v' w1 hown hg _
          have HO3 := Lib.hid (Own.append hO.out (Nat.lt_of_lt_of_le (Nat.mod_lt (x + 65536 - y - min cc 1) (by decide : 0 < 65536)) (by decide : 65536 ≤ B64)) _ _ (by omega) hown hg)
          clear hown hg
          go_wp2_with fail
          go_roundw
          case rel => exact ⟨k + 1, 0, R ++ [((x + 65536 - y - min cc 1) % 65536)], by omega, by go_num, rfl, by omega, hstep, HO3⟩
          case measure => simp only [intOf]; omega
      · have hy0 : (Dg.db 65536 Y).getD k 0 = 0 := by simp [List.getD, hky]
        rw [hy0] at hstep
        have hlY : ¬ ((k : Int) < (Dg.db 65536 Y).length) := by omega
        generalize (Dg.db 65536 X).getD k 0 = x at *
        generalize (Dg.db 65536 Y).getD k 0 = y at *
        by_cases hlt : x < 0 + min cc 1
        · have hd : decide ((x : Int) < (cc : Int)) = true := by simp; omega
          have hw2 : IntKind.u64.wrap ((x : Int) + 65536) = (x : Int) + 65536 := by rw [IntKind.wrap_u64]; omega
          have hw3 : IntKind.u64.wrap ((x : Int) + 65536 - (cc : Int)) = (x : Int) + 65536 - (cc : Int) := by rw [IntKind.wrap_u64]; omega
          have hst := hstep.out
          rw [if_pos hlt] at hst
          have hstep := Lib.hid hst
          clear hst
          go_wp2_with (at_builtin; refine wpList_append_own _ rfl _ _ 22 rfl w2.heap.size 43 i0 (.int .u64 0) 1 8 und_u64s hi hz0 hz1 hz2 rfl (by decide) _ R.length (us R) rfl (hO.out.alloc _).1.2 ⟨wr.heap.size, 0, none⟩ 1 1 _ rfl rfl (lit_news _ _) (lit_one _) ?c3 ?c4 ?c5 ?_)
          case c3 => have := HLR.out; unfold maxLen; omega
          case c4 => have := HLR.out; omega
          case c5 => have := hO.out.2.size; simp; omega
          intro v' w1 hown hg _
          have HO3 := Lib.hid (Own.append hO.out (Nat.lt_of_lt_of_le (Nat.mod_lt (x + 65536 - 0 - min cc 1) (by decide : 0 < 65536)) (by decide : 65536 ≤ B64)) _ _ (by omega) hown hg)
          clear hown hg
          go_wp2_with fail
          go_roundw
          case rel => exact ⟨k + 1, 1, R ++ [((x + 65536 - 0 - min cc 1) % 65536)], by omega, by go_num, rfl, by omega, hstep, HO3⟩
          case measure => simp only [intOf]; omega
        · have hd : decide ((x : Int) < (cc : Int)) = false := by simp; omega
          have hw3 : IntKind.u64.wrap ((x : Int) - (cc : Int)) = (x : Int) - (cc : Int) := by rw [IntKind.wrap_u64]; omega
          have hst := hstep.out
          rw [if_neg hlt] at hst
          have hstep := Lib.hid hst
          clear hst
          go_wp2_with (at_builtin; refine wpList_append_own _ rfl _ _ 22 rfl w2.heap.size 43 i0 (.int .u64 0) 1 8 und_u64s hi hz0 hz1 hz2 rfl (by decide) _ R.length (us R) rfl (hO.out.alloc _).1.2 ⟨wr.heap.size, 0, none⟩ 1 1 _ rfl rfl (lit_news _ _) (lit_one _) ?c3 ?c4 ?c5 ?_)
          case c3 => have := HLR.out; unfold maxLen; omega
          case c4 => have := HLR.out; omega
          case c5 => have := hO.out.2.size; simp; omega
          intro v' w1 hown hg _
          have HO3 := Lib.hid (Own.append hO.out (Nat.lt_of_lt_of_le (Nat.mod_lt (x + 65536 - 0 - min cc 1) (by decide : 0 < 65536)) (by decide : 65536 ≤ B64)) _ _ (by omega) hown hg)
          clear hown hg
          go_wp2_with fail
          go_roundw
          case rel => exact ⟨k + 1, 0, R ++ [((x + 65536 - 0 - min cc 1) % 65536)], by omega, by go_num, rfl, by omega, hstep, HO3⟩
          case measure => simp only [intOf]; omega
    · have hlX : ¬ ((k : Int) < (Dg.db 65536 X).length) := by omega
      have HE := Lib.hid (show Dg.dv 65536 R = X - Y from subat_done hA.out (by omega) HLE.out)
      have HDS := Lib.hid hA.out.2.1
      have HJ := Lib.hid (join_calls _ _ wr hO.out.1.nv HDS.out (by have := HLR.out; omega))
      rw [HE.out] at HJ
      obtain ⟨a9, c9, rfl⟩ := hO.out.1.slice
      go_wp2_with fail
      refine HJ.out.mono ?_
      rintro e w5 ⟨v', rfl, hn, hb⟩
      obtain ⟨a8, c8, rfl⟩ := hn.slice
      have HN := Lib.hid (hn.mono (Nat.le_trans HB2.out.size hO.out.2.size))
      have HB5 := Lib.hid (HB2.out.trans ((hO.out.2.trans (hb.mono hO.out.2.size)).mono HB2.out.size))
      clear hn hb
      go_wp2_with fail
      go_ret2
      exact ⟨_, rfl, HN.out, HB5.out⟩

end Go.Proofs.YthlpfhenaakljaaGreatDoor

namespace Go.Proofs.YthlpfhenaakljaaGreatDoor
open Go.RowKit

def MulO (xs ys : List Nat) (i : Nat) (ds : List Nat) : Prop := Dg.MulAt 65536 xs (ys ++ [0]) i ds ∧ ∀ j, i + ys.length ≤ j → ds.getD j 0 = 0
def MulR (xs ys : List Nat) (i k : Nat) (ds : List Nat) (o : Nat) : Prop :=
  Dg.MulIn 65536 xs (ys ++ [0]) i k ds o ∧ (k ≤ ys.length → ∀ j, i + ys.length ≤ j → ds.getD j 0 = 0) ∧ (k = ys.length + 1 → o = 0)

theorem MulO.start (xs ys : List Nat) : MulO xs ys 0 (List.replicate (xs.length + ys.length + 1) 0) := by
  refine ⟨?_, fun j _ => ?_⟩
  · have := Dg.MulAt.start (b := 65536) (by decide) xs (ys ++ [0])
    rwa [List.length_append, List.length_singleton, ← Nat.add_assoc] at this
  · by_cases h : j < xs.length + ys.length + 1 <;> simp [List.getD, h]
theorem MulO.inner {xs ys : List Nat} {i : Nat} {ds : List Nat} (h : MulO xs ys i ds) : MulR xs ys i 0 ds 0 := ⟨h.1.inner (by decide), fun _ => h.2, fun h => by omega⟩

theorem mul16 {x y o v : Nat} (hx : x < 65536) (hy : y < 65536) (ho : o < 65536) (hv : v < 65536) : x * y ≤ 65535 * 65535 ∧ (v + o + x * y) / 65536 < 65536 := by
  have h : x * y ≤ 65535 * 65535 := Nat.mul_le_mul (by omega) (by omega)
  exact ⟨h, by omega⟩

theorem MulR.step_in {xs ys : List Nat} {i k : Nat} {ds : List Nat} {o : Nat} (hx : Dg.Ds 65536 xs) (hy : Dg.Ds 65536 ys) (hi : i < xs.length) (hk : k < ys.length) (h : MulR xs ys i k ds o) :
    MulR xs ys i (k + 1) (ds.set (i + k) ((ds.getD (i + k) 0 + o + xs.getD i 0 * ys.getD k 0) % 65536)) ((ds.getD (i + k) 0 + o + xs.getD i 0 * ys.getD k 0) / 65536) := by
  obtain ⟨h1, h2, h3⟩ := h
  have hyk : (ys ++ [0]).getD k 0 = ys.getD k 0 := by simp [List.getD, List.getElem?_append, hk]
  obtain ⟨m1, m2⟩ := mul16 (Dg.Ds.getD (by decide) hx i) (Dg.Ds.getD (by decide) hy k) h1.2.2.2.1 (Dg.Ds.getD (by decide) h1.2.1 (i + k))
  refine ⟨h1.step (by decide) hi (by simp; omega) (Nat.mod_lt _ (by decide)) m2 ?_, fun hk2 j hj => ?_, fun h => by omega⟩
  · rw [hyk, Nat.mod_add_div]; omega
  · rw [Dg.getD_set_ne _ _ _ _ (by omega)]; exact h2 (by omega) j hj

theorem MulR.step_end {xs ys : List Nat} {i : Nat} {ds : List Nat} {o : Nat} (hi : i < xs.length) (h : MulR xs ys i ys.length ds o) :
    MulR xs ys i (ys.length + 1) (ds.set (i + ys.length) ((ds.getD (i + ys.length) 0 + o) % 65536)) ((ds.getD (i + ys.length) 0 + o) / 65536) := by
  obtain ⟨h1, h2, h3⟩ := h
  have hz := h2 (Nat.le_refl _) (i + ys.length) (Nat.le_refl _)
  have ho := h1.2.2.2.1
  rw [hz, Nat.zero_add]
  have e1 : o % 65536 = o := Nat.mod_eq_of_lt ho
  have e2 : o / 65536 = 0 := Nat.div_eq_of_lt ho
  rw [e1, e2]
  refine ⟨h1.step (by decide) hi (by simp) ho (by decide) ?_, fun hk => by omega, fun _ => rfl⟩
  have hy0 : (ys ++ [0]).getD ys.length 0 = 0 := by simp [List.getD]
  rw [hy0, hz]; omega

theorem set_same (ds : List Nat) (j : Nat) : ds.set j (ds.getD j 0) = ds := by
  by_cases h : j < ds.length
  · simp [List.getD, h]
  · rw [List.set_eq_of_length_le (by omega)]

theorem MulR.done1 {xs ys : List Nat} {i : Nat} {ds : List Nat} {o : Nat} (hi : i < xs.length) (h : MulR xs ys i (ys.length + 1) ds o) : MulO xs ys (i + 1) ds := by
  obtain ⟨h1, h2, h3⟩ := h
  have ho := h3 rfl
  subst ho
  have hz : ds.getD (i + (ys ++ [0]).length) 0 = 0 := h1.2.2.1 _ (Nat.le_refl _)
  have hl : (ys ++ [0]).length = ys.length + 1 := by simp
  have hd := Dg.MulIn.done (b := 65536) (by decide) hi (ys := ys ++ [0]) (ds := ds) (o := 0) (by rw [hl]; exact h1)
  have hs := set_same ds (i + (ys ++ [0]).length)
  rw [hz] at hs
  rw [hs] at hd
  exact ⟨hd, fun j hj => h1.2.2.1 j (by rw [hl]; omega)⟩

theorem MulR.done0 {xs ys : List Nat} {i : Nat} {ds : List Nat} (hi : i < xs.length) (h : MulR xs ys i ys.length ds 0) : MulO xs ys (i + 1) ds := by
  have h1 := h.step_end hi
  rw [h.2.1 (Nat.le_refl _) (i + ys.length) (Nat.le_refl _)] at h1
  have hs := set_same ds (i + ys.length)
  rw [h.2.1 (Nat.le_refl _) (i + ys.length) (Nat.le_refl _)] at hs
  rw [show (0 + 0) % 65536 = 0 by decide, hs] at h1
  exact h1.done1 hi

set_option maxRecDepth 100000 in
set_option maxHeartbeats 6400000 in
theorem mul2_calls (v1 v2 : Value) (xs ys : List Nat) (w : World) (h1 : Nv w v1 xs) (h2 : Nv w v2 ys) (l1 : xs.length ≤ 524288) (l2 : ys.length ≤ 524288) :
    Calls Tryz.prog 39 #[v1, v2] w (RetN (Dg.db B64 (Dg.dv B64 xs * Dg.dv B64 ys)) w) := by
  obtain ⟨i0, hi, hz0, hz1, hz2⟩ := info_parts info_u64
  have D1 := Lib.hid (fun wx (hb : Below w.heap.size w wx) => digits_calls v1 xs wx (h1.below hb) (by omega))
  have D2 := Lib.hid (fun wx (hb : Below w.heap.size w wx) => digits_calls v2 ys wx (h2.below hb) (by omega))
  have L1 := Lib.hid (dig_len h1.1)
  have L2 := Lib.hid (dig_len h2.1)
  obtain ⟨_, a1, c1, rfl, _, _⟩ := id h1
  obtain ⟨_, a2, c2, rfl, _, _⟩ := id h2
  clear h1 h2
  generalize Dg.dv B64 xs = X at *
  generalize Dg.dv B64 ys = Y at *
  go_enter Tryz.func39, Tryz.ntmps39
  go_wp2_with fail
  refine (D1.out _ (Below.refl _ _)).mono ?_
  rintro e w1 ⟨v1, rfl, hn1, hb1⟩
  obtain ⟨_, a3, c3, rfl, _, _⟩ := id hn1
  have HB1 := Lib.hid hb1
  have HN1 := Lib.hid hn1
  clear hn1 hb1
  go_wp2_with fail
  refine (D2.out _ HB1.out).mono ?_
  rintro e w2 ⟨v2, rfl, hn2, hb2⟩
  obtain ⟨_, a4, c4, rfl, _, r2⟩ := id hn2
  obtain ⟨_, _, _, e3, _, r1⟩ := HN1.out.below hb2
  obtain ⟨rfl, -, rfl⟩ := Value.slice.inj e3
  clear e3
  have HB2 := Lib.hid (HB1.out.trans (hb2.mono HB1.out.size))
  clear hn2 hb2 HN1
  have hlx : (Dg.db 65536 X).length ≤ 2097152 := by have := L1.out; omega
  have hly : (Dg.db 65536 Y).length ≤ 2097152 := by have := L2.out; omega
  have hdx := Dg.db_Ds (b := 65536) (by decide) X
  have hdy := Dg.db_Ds (b := 65536) (by decide) Y
  have HVX := Lib.hid (Dg.dv_db (b := 65536) (by decide) X)
  have HVY := Lib.hid (Dg.dv_db (b := 65536) (by decide) Y)
  generalize Dg.db 65536 X = p at *
  generalize Dg.db 65536 Y = q at *
  go_wp2_with (at_make; refine wpList_make_full _ rfl _ _ 22 rfl w2.heap.size 43 i0 (.int .u64 0) 1 und_u64s hi hz0 hz1 .i64 .i64 _ _ (p.length + q.length + 1) rfl rfl ?_ ?_ ?_ ?_ ?_ ?_)
  · omega
  · omega
  · rw [hz2]; omega
  · unfold maxLen; omega
  · omega
  intro w3 hown hg
  have hR := RowAt.made (Below.refl _ _) hown hg
  obtain ⟨n, hn⟩ : ∃ n, n = p.length + q.length + 1 := ⟨_, rfl⟩
  have hn1 : n ≤ p.length + q.length + 1 := by omega
  have hn2 : p.length + q.length + 1 ≤ n := by omega
  have HM := Lib.hid (MulO.start p q)
  rw [← hn] at hR HM ⊢
  have HR := Lib.hid hR
  clear hown hg hR hn hi hz0 hz1 hz2
  generalize hgg : w2.heap.size = g at *
  have HGG := Lib.hid hgg
  clear hgg
  go_wp2_with fail
  go_loopw [8] (fun s wr => ∃ i : Nat, i ≤ p.length ∧ s = .int .i64 i ∧ Hid (∃ ds, MulO p q i ds ∧ RowAt w2 wr g n ds)) (fun s _ => p.length - (intOf s).toNat)
  case atStart => exact ⟨0, Nat.zero_le _, rfl, _, HM.out, HR.out⟩
  case round =>
    obtain ⟨i, hi, rfl, hrel⟩ := hrel
    obtain ⟨ds, hM, hR⟩ := hrel.out
    clear hrel HM HR
    by_cases hin : i < p.length
    · have HIn := Lib.hid hM.inner
      have HR := Lib.hid hR
      clear hM hR
      obtain ⟨b1, o1, rfl, hb1, hc1⟩ := r1.cell (fun h => by simp [h] at hin)
      have HCX := Lib.hid (hc1 i hin)
      have hxb := Dg.Ds.getD (by decide) hdx i
      clear hc1
      go_wp2_with fail
      go_loopw [9, 10] (fun o s wi => ∃ k ov : Nat, k ≤ q.length + 1 ∧ s = .int .i64 k ∧ o = .int .u64 ov ∧ Hid (∃ ds', MulR p q i k ds' ov ∧ RowAt w2 wi g n ds')) (fun _ s _ => q.length + 1 - (intOf s).toNat)
      case atStart => exact ⟨0, 0, Nat.zero_le _, rfl, rfl, _, HIn.out, HR.out⟩
      case round =>
        obtain ⟨k, ov, hk, rfl, rfl, hrel⟩ := hrel
        obtain ⟨ds', hI, hR'⟩ := hrel.out
        clear hrel HIn HR
        by_cases hkn : k < q.length
        · obtain ⟨b2, o2, rfl, hb2, hc2⟩ := r2.cell (fun h => by simp [h] at hkn)
          have hcx := (hR'.2.2.cell (p := ⟨b1, o1 + i, none⟩) hb1).trans HCX.out
          have hcy := (hR'.2.2.cell (p := ⟨b2, o2 + k, none⟩) hb2).trans (hc2 k hkn)
          have hcd := hR'.cell (k := i + k) (by omega)
          have hyb := Dg.Ds.getD (by decide) hdy k
          have hvb := Dg.Ds.getD (by decide) hI.1.2.1 (i + k)
          have hob := hI.1.2.2.2.1
          have HI := Lib.hid (hI.step_in hdx hdy hin hkn)
          have HR' := Lib.hid hR'
          clear hc2 hI hR'
          generalize p.getD i 0 = x at *
          generalize q.getD k 0 = y at *
          generalize ds'.getD (i + k) 0 = v at *
          obtain ⟨m1, m2⟩ := mul16 hxb hyb hob hvb
          have hxy : (x : Int) * (y : Int) = ((x * y : Nat) : Int) := by push_cast; rfl
          generalize x * y = z at *
          have hw0 : IntKind.u64.wrap (z : Int) = (z : Int) := by rw [IntKind.wrap_u64]; omega
          have hw1 : IntKind.u64.wrap ((v : Int) + ov) = (v : Int) + ov := by rw [IntKind.wrap_u64]; omega
          have hw2 : IntKind.u64.wrap ((v : Int) + ov + z) = (v : Int) + ov + z := by rw [IntKind.wrap_u64]; omega
          have hw3 : IntKind.u64.wrap (((v : Int) + ov + z) / 65536) = ((v : Int) + ov + z) / 65536 := by rw [IntKind.wrap_u64]; omega
          have hlY : (k : Int) < q.length := by omega
          have hik : (0 : Int) ≤ (i : Int) + k ∧ (i : Int) + k < n := by omega
          go_wp2_with fail
          go_quiet (fail)
          have hR'' := HR'.out.below (below_drewN (Below.refl _ _) nq)
          have hcell := hR''.cell (k := i + k) (by omega)
          have hfree := hR''.free (i + k)
          have HR'' := Lib.hid (fun r => hR''.set (i + k) r)
          clear hR'' hcx hcy hcd HR'
          generalize ds'.getD (i + k) 0 = old at *
          go_wp2_with fail
          have HR3 := HR''.out ((v + ov + z) % 65536)
          rw [show (((v + ov + z) % 65536 : Nat) : Int) = ((v : Int) + ov + z) % 65536 from by omega] at HR3
          have HR3 := Lib.hid HR3
          go_roundw
          case rel => exact ⟨k + 1, (v + ov + z) / 65536, by omega, by go_num, congrArg _ (by omega), _, HI.out, HR3.out⟩
          case measure => simp only [intOf]; omega
        · have hlY : ¬ ((k : Int) < q.length) := by omega
          by_cases hov : ov = 0
          · subst hov
            have HO := Lib.hid (show MulO p q (i + 1) ds' by
              rcases (show k = q.length ∨ k = q.length + 1 by omega) with rfl | rfl
              · exact hI.done0 hin
              · exact hI.done1 hin)
            have HR2 := Lib.hid hR'
            clear hI hR'
            go_wp2_with fail
            go_roundw
            case rel => exact ⟨i + 1, by omega, by go_num, _, HO.out, HR2.out⟩
            case measure => simp only [intOf]; omega
          · have hkq : k = q.length := by
              refine Classical.byContradiction fun h => hov (hI.2.2 (by omega))
            subst hkq
            have hcd := hR'.cell (k := i + q.length) (by omega)
            have hfd := hR'.free (i + q.length)
            have hvb := Dg.Ds.getD (by decide) hI.1.2.1 (i + q.length)
            have hob := hI.1.2.2.2.1
            have HI := Lib.hid (hI.step_end hin)
            have HR' := Lib.hid (fun r => hR'.set (i + q.length) r)
            clear hI hR'
            generalize ds'.getD (i + q.length) 0 = v at *
            have hop : (ov : Int) > 0 := by omega
            have hw1 : IntKind.u64.wrap ((v : Int) + ov) = (v : Int) + ov := by rw [IntKind.wrap_u64]; omega
            have hw3 : IntKind.u64.wrap (((v : Int) + ov) / 65536) = ((v : Int) + ov) / 65536 := by rw [IntKind.wrap_u64]; omega
            have hik : (0 : Int) ≤ (i : Int) + q.length ∧ (i : Int) + q.length < n := by omega
            go_wp2_with fail
            have HR3 := HR'.out ((v + ov) % 65536)
            rw [show (((v + ov) % 65536 : Nat) : Int) = ((v : Int) + ov) % 65536 from by omega] at HR3
            have HR3 := Lib.hid HR3
            go_roundw
            case rel => exact ⟨q.length + 1, (v + ov) / 65536, by omega, by go_num, congrArg _ (by omega), _, HI.out, HR3.out⟩
            case measure => simp only [intOf]; omega
    · obtain rfl : i = p.length := by omega
      have HJ := Lib.hid (join_calls _ _ wr (hR.nv (Ws16 hM.1.2.1)) hM.1.2.1 (by have := hR.1; omega))
      have hval : Dg.dv 65536 ds = X * Y := by
        rw [hM.1.2.2.2, List.take_length, Dg.dv_append, HVX.out, HVY.out]
        simp [Dg.dv]
      rw [hval] at HJ
      have hbw := Lib.hid hR.2.2
      have hll : ¬ ((p.length : Int) < p.length) := by omega
      clear hM hR hval
      go_wp2_with fail
      refine HJ.out.mono ?_
      rintro e w5 ⟨v', rfl, hn, hb⟩
      obtain ⟨a8, c8, rfl⟩ := hn.slice
      have HN := Lib.hid (hn.mono (Nat.le_trans HB2.out.size hbw.out.size))
      have HB5 := Lib.hid (HB2.out.trans ((hbw.out.trans (hb.mono hbw.out.size)).mono HB2.out.size))
      clear hn hb
      go_wp2_with fail
      go_ret
      exact ⟨_, rfl, HN.out, HB5.out⟩

end Go.Proofs.YthlpfhenaakljaaGreatDoor

namespace Go.Proofs.YthlpfhenaakljaaGreatDoor
open Go.RowKit

theorem db_len_pow {n k : Nat} (h : n < 64 * k) : (Dg.db B64 (2 ^ n)).length ≤ k := Dg.db_length (by decide) (by
  rw [show B64 = 2 ^ 64 by decide, ← Nat.pow_mul]
  exact Nat.pow_lt_pow_right (by decide) h)

theorem pow16_lt {k : Nat} (h : k < 16) : 2 ^ k < 65536 := Nat.lt_of_lt_of_le (Nat.pow_lt_pow_right (by decide) h) (by decide)
theorem pow16_le {k : Nat} (h : k ≤ 16) : 2 ^ k ≤ 65536 := Nat.le_trans (Nat.pow_le_pow_right (by decide) h) (by decide)

theorem power_row (n N : Nat) (hN : N = n / 16 + 1) :
    Dg.Ds 65536 ((List.replicate N 0).set (n / 16) (2 ^ (n % 16))) ∧ Dg.dv 65536 ((List.replicate N 0).set (n / 16) (2 ^ (n % 16))) = 2 ^ n := by
  have hd : Dg.Ds 65536 (List.replicate N 0) := fun x hx => by rw [List.eq_of_mem_replicate hx]; decide
  have h0 : Dg.dv 65536 (List.replicate N 0) = 0 := Dg.dv_replicate_zero _ _
  obtain ⟨h1, h2, h3⟩ := Dg.bit_set (k := n) hd (by simp; omega) (by rw [h0]; simp)
  have hg : (List.replicate N 0).getD (n / 16) 0 = 0 := by simp [List.getD, List.getElem?_replicate]; split <;> rfl
  rw [hg, Nat.zero_add] at h2 h3
  rw [h0, Nat.zero_add] at h3
  exact ⟨h2, h3⟩

set_option maxRecDepth 100000 in
set_option maxHeartbeats 3200000 in
theorem power_calls (n : Nat) (NN : Int) (hNN : NN = (n : Int)) (w : World) (hn : n ≤ 65536) :
    Calls Tryz.prog 124 #[.int .i64 NN] w (RetN (Dg.db B64 (2 ^ n)) w) := by
  subst hNN
  obtain ⟨i0, hi, hz0, hz1, hz2⟩ := info_parts info_u64
  obtain ⟨P1, P2⟩ := power_row n (n / 16 + 1) rfl
  have HP := Lib.hid (And.intro P1 P2)
  clear P1 P2
  have hdn : (n : Int) / 16 = ((n / 16 : Nat) : Int) := by omega
  have hmn : (n : Int) % 16 = ((n % 16 : Nat) : Int) := by omega
  have hr : n % 16 < 16 := Nat.mod_lt _ (by decide)
  have hq : n / 16 ≤ 4096 := by omega
  generalize n / 16 = q at *
  generalize n % 16 = r at *
  go_enter Tryz.func124, Tryz.ntmps124
  go_wp2_with (at_make; refine wpList_make_full _ rfl _ _ 22 rfl w.heap.size 43 i0 (.int .u64 0) 1 und_u64s hi hz0 hz1 .i64 .i64 _ _ (q + 1) rfl rfl ?_ ?_ ?_ ?_ ?_ ?_)
  · omega
  · omega
  · rw [hz2]; omega
  · unfold maxLen; omega
  · omega
  intro w1 hown hg
  have HR := Lib.hid (RowAt.made (Below.refl _ _) hown hg)
  clear hown hg hi hz0 hz1 hz2
  generalize hgg : w.heap.size = g at *
  have HGG := Lib.hid hgg
  clear hgg
  go_wp2_with fail
  go_loop [4, 5] (fun u s => ∃ k z : Nat, k ≤ r ∧ s = .int .i64 k ∧ u = .int .u64 z ∧ Hid (z = 2 ^ k)) (fun _ s => r - (intOf s).toNat)
  case atStart => exact ⟨0, 1, Nat.zero_le _, rfl, rfl, Lib.hid (by simp)⟩
  case round =>
    obtain ⟨k, z, hk, rfl, rfl, hrel⟩ := hrel
    by_cases hkr : k < r
    · have hzb : z < 65536 := by rw [hrel.out]; exact pow16_lt (by omega)
      have hwz : IntKind.u64.wrap (2 * (z : Int)) = 2 * (z : Int) := by rw [IntKind.wrap_u64]; omega
      have hlt : (k : Int) < r := by omega
      go_wp2_with fail
      go_round
      case rel => exact ⟨k + 1, 2 * z, hkr, by go_num, congrArg _ (by omega), Lib.hid (by rw [hrel.out, Nat.pow_succ, Nat.mul_comm])⟩
      case measure => simp only [intOf]; omega
    · have hkr2 : k = r := by omega
      have hlt : ¬ ((k : Int) < r) := by omega
      have hcell := HR.out.cell (k := q) (by omega)
      have hfree := HR.out.free q
      have HR2 := Lib.hid (HR.out.set q z)
      have hz : z = 2 ^ r := by rw [hrel.out, hkr2]
      have hq0 : (0 : Int) ≤ (q : Int) ∧ (q : Int) < (q : Int) + 1 := by omega
      have hg0 : (List.replicate (q + 1) 0).getD q 0 = 0 := by simp [List.getD]
      rw [hg0] at hcell
      have hP := HP.out
      rw [← hz] at hP
      have HJ := Lib.hid (join_calls _ _ _ (HR2.out.nv (Ws16 hP.1)) hP.1 (by simp; omega))
      rw [hP.2] at HJ
      have HBW := Lib.hid HR2.out.2.2
      clear hP hz HP
      go_wp2_with fail
      refine HJ.out.mono ?_
      rintro e w5 ⟨v', rfl, hn, hb⟩
      obtain ⟨a8, c8, rfl⟩ := hn.slice
      have HN := Lib.hid (hn.mono HBW.out.size)
      have HB5 := Lib.hid (HBW.out.trans (hb.mono HBW.out.size))
      clear hn hb
      go_wp2_with fail
      go_ret
      exact ⟨_, rfl, HN.out, HB5.out⟩

set_option maxHeartbeats 1600000 in
theorem shl2_calls (v : Value) (xs : List Nat) (n : Nat) (NN : Int) (hNN : NN = (n : Int)) (w : World) (hv : Nv w v xs) (hl : xs.length ≤ 524288) (hn : n ≤ 65536) :
    Calls Tryz.prog 108 #[v, .int .i64 NN] w (fun e w' => ∃ v', e = .returned (.tuple #[v', .int .i64 0]) ∧ No w.heap.size w' v' (Dg.db B64 (Dg.dv B64 xs * 2 ^ n)) ∧ Below w.heap.size w w') := by
  subst hNN
  have HP := Lib.hid (power_calls n _ rfl w hn)
  have hpl : (Dg.db B64 (2 ^ n)).length ≤ 1025 := db_len_pow (by omega)
  have HM := Lib.hid (fun wx v2 (hb : Below w.heap.size w wx) (h2 : Nv wx v2 (Dg.db B64 (2 ^ n))) => mul2_calls v v2 xs _ wx (hv.below hb) h2 hl (by omega))
  rw [Dg.dv_db (by decide)] at HM
  obtain ⟨_, a1, c1, rfl, _, _⟩ := id hv
  clear hv hpl
  generalize Dg.dv B64 xs = X at *
  generalize Dg.db B64 (2 ^ n) = P at *
  generalize Dg.db B64 (X * 2 ^ n) = R at *
  have h1 : ¬ ((n : Int) < 0) := by omega
  have h2 : ¬ ((n : Int) > 65536) := by omega
  go_enter Tryz.func108, Tryz.ntmps108
  go_wp2_with fail
  refine HP.out.mono ?_
  rintro e w1 ⟨v1, rfl, hn1, hb1⟩
  obtain ⟨a3, c3, rfl⟩ := hn1.slice
  have HM := Lib.hid (HM.out _ _ hb1 hn1.nv)
  have HB := Lib.hid hb1
  clear hn1 hb1
  go_wp2_with fail
  refine HM.out.mono ?_
  rintro e w2 ⟨v2, rfl, hn2, hb2⟩
  obtain ⟨a4, c4, rfl⟩ := hn2.slice
  have HN := Lib.hid (hn2.mono HB.out.size)
  have HB2 := Lib.hid (HB.out.trans (hb2.mono HB.out.size))
  clear hn2 hb2
  go_wp2_with fail
  go_ret2
  exact ⟨_, rfl, HN.out, HB2.out⟩

end Go.Proofs.YthlpfhenaakljaaGreatDoor

namespace Go.Proofs.YthlpfhenaakljaaGreatDoor
open Go.RowKit

theorem bl_le16 (V : Nat) : Dg.bl V ≤ 16 * (Dg.db 65536 V).length := by
  refine Dg.bl_le ?_
  have := Dg.lt_pow_length (b := 65536) (by decide) V
  rwa [show (65536 : Nat) = 2 ^ 16 by decide, ← Nat.pow_mul] at this

/-- In the loop of Shr: the row holds the places from n on, as far as place i. -/
def ShrAt (V n i N : Nat) (ds : List Nat) : Prop := ds.length = N ∧ Dg.Ds 65536 ds ∧ Dg.dv 65536 ds = V % 2 ^ i / 2 ^ n
theorem ShrAt.start (V n N : Nat) : ShrAt V n n N (List.replicate N 0) :=
  ⟨by simp, fun x hx => by rw [List.eq_of_mem_replicate hx]; decide, by rw [Dg.dv_replicate_zero, Dg.shr_start]⟩
theorem ShrAt.zero {V n i N : Nat} {ds : List Nat} (h : ShrAt V n i N ds) (hi : n ≤ i) (hb : V / 2 ^ i % 2 ≠ 1) : ShrAt V n (i + 1) N ds := by
  refine ⟨h.1, h.2.1, ?_⟩
  rw [Dg.shr_next hi, show V / 2 ^ i % 2 = 0 by omega, Nat.zero_mul, Nat.add_zero]
  exact h.2.2
theorem ShrAt.one {V n i N : Nat} {ds : List Nat} (h : ShrAt V n i N ds) (hi : n ≤ i) (hb : V / 2 ^ i % 2 = 1) (hN : (i - n) / 16 < N) :
    ds.getD ((i - n) / 16) 0 + 2 ^ ((i - n) % 16) < 65536 ∧ ShrAt V n (i + 1) N (ds.set ((i - n) / 16) (ds.getD ((i - n) / 16) 0 + 2 ^ ((i - n) % 16))) := by
  obtain ⟨e1, e2, e3⟩ := h
  obtain ⟨f1, f2, f3⟩ := Dg.bit_set (k := i - n) e2 (by omega) (by rw [e3]; exact Dg.shr_bit0 hi)
  refine ⟨f1, by simp [e1], f2, ?_⟩
  rw [f3, e3, Dg.shr_next hi, hb, Nat.one_mul]
theorem ShrAt.done {V n i N : Nat} {ds : List Nat} (h : ShrAt V n i N ds) (hi : Dg.bl V ≤ i) : Dg.dv 65536 ds = V / 2 ^ n := by
  rw [h.2.2, Nat.mod_eq_of_lt (Nat.lt_of_lt_of_le (Dg.lt_two_bl V) (Nat.pow_le_pow_right (by decide) hi))]

set_option maxRecDepth 100000 in
set_option maxHeartbeats 6400000 in
theorem shr2_calls (v : Value) (xs : List Nat) (n : Nat) (NN : Int) (hNN : NN = (n : Int)) (w : World) (hv : Nv w v xs) (hl : xs.length ≤ 524288) (hn : n ≤ 65536) :
    Calls Tryz.prog 105 #[v, .int .i64 NN] w (fun e w' => ∃ v', e = .returned (.tuple #[v', .int .i64 0]) ∧ No w.heap.size w' v' (Dg.db B64 (Dg.dv B64 xs / 2 ^ n)) ∧ Below w.heap.size w w') := by
  subst hNN
  obtain ⟨i0, hi, hz0, hz1, hz2⟩ := info_parts info_u64
  have D1 := Lib.hid (digits_calls v xs w hv (by omega))
  have L1 := Lib.hid (dig_len hv.1)
  have CL := Lib.hid (fun wx (hb : Below w.heap.size w wx) => len2_calls v xs wx (hv.below hb) (by omega))
  have CB := Lib.hid (fun wx (hb : Below w.heap.size w wx) i hi => bit2_calls v xs i _ rfl wx (hv.below hb) (by omega) hi)
  obtain ⟨_, a1, c1, rfl, _, _⟩ := id hv
  clear hv
  generalize Dg.dv B64 xs = V at *
  have hbl := bl_le16 V
  have hlx : (Dg.db 65536 V).length ≤ 2097152 := by have := L1.out; omega
  have h1 : ¬ ((n : Int) < 0) := by omega
  have h2 : ¬ ((n : Int) > 65536) := by omega
  go_enter Tryz.func105, Tryz.ntmps105
  go_wp2_with fail
  refine D1.out.mono ?_
  rintro e w2 ⟨v2, rfl, hn2, hb2⟩
  obtain ⟨_, a4, c4, rfl, _, r2⟩ := id hn2
  have HB2 := Lib.hid hb2
  clear hn2 hb2 r2
  generalize (Dg.db 65536 V).length = L at *
  go_wp2_with (at_make; refine wpList_make_full _ rfl _ _ 22 rfl w2.heap.size 43 i0 (.int .u64 0) 1 und_u64s hi hz0 hz1 .i64 .i64 _ _ (L + 1) rfl rfl ?_ ?_ ?_ ?_ ?_ ?_)
  · omega
  · omega
  · rw [hz2]; omega
  · unfold maxLen; omega
  · omega
  intro w3 hown hg
  have HR := Lib.hid (RowAt.made (Below.refl _ _) hown hg)
  have HS := Lib.hid (ShrAt.start V n (L + 1))
  clear hown hg hi hz0 hz1 hz2
  generalize hgg : w2.heap.size = g at *
  have HGG := Lib.hid hgg
  clear hgg
  go_wp2_with fail
  go_loopw [7] (fun s wr => ∃ i : Nat, n ≤ i ∧ (i = n ∨ i ≤ Dg.bl V) ∧ s = .int .i64 i ∧ Hid (∃ ds, ShrAt V n i (L + 1) ds ∧ RowAt w2 wr g (L + 1) ds)) (fun s _ => Dg.bl V - (intOf s).toNat)
  case atStart => exact ⟨n, Nat.le_refl _, .inl rfl, rfl, _, HS.out, HR.out⟩
  case round =>
    obtain ⟨i, hni, hib, rfl, hrel⟩ := hrel
    obtain ⟨ds, hM, hR⟩ := hrel.out
    clear hrel HS HR
    have CL2 := Lib.hid (CL.out wr (HB2.out.trans (hR.2.2.mono HB2.out.size)))
    have HM := Lib.hid hM
    have HR := Lib.hid hR
    clear hM hR
    by_cases hin : i < Dg.bl V
    · have hlt : (i : Int) < (Dg.bl V : Nat) := by omega
      have hlt2 : (i : Int) ≤ 33554432 := by omega
      generalize hBL : Dg.bl V = BL at *
      go_wp2_with fail
      refine CL2.out.mono ?_
      rintro e w4 ⟨rfl, hb4⟩
      have HR4 := Lib.hid (HR.out.below hb4)
      have CB2 := Lib.hid (CB.out w4 (HB2.out.trans (HR4.out.2.2.mono HB2.out.size)) i (by omega))
      clear hb4 CL2
      go_wp2_with fail
      refine CB2.out.mono ?_
      rintro e w5 ⟨rfl, hb5⟩
      have HR5 := Lib.hid (HR4.out.below hb5)
      clear hb5 CB2
      by_cases hbit : V / 2 ^ i % 2 = 1
      · rw [decide_eq_true hbit]
        have hkN : (i - n) / 16 < L + 1 := by omega
        obtain ⟨s1, s2⟩ := HM.out.one hni hbit hkN
        have HS2 := Lib.hid s2
        have hdn : (((i - n : Nat) : Int)) / 16 = (((i - n) / 16 : Nat) : Int) := by omega
        have hmn : (((i - n : Nat) : Int)) % 16 = (((i - n) % 16 : Nat) : Int) := by omega
        have hr16 : (i - n) % 16 < 16 := Nat.mod_lt _ (by decide)
        have hkk : (i : Int) - n = ((i - n : Nat) : Int) := by omega
        have hcell := HR5.out.cell (k := (i - n) / 16) (by omega)
        have hfree := HR5.out.free ((i - n) / 16)
        have HR6 := Lib.hid (fun r => HR5.out.set ((i - n) / 16) r)
        clear s2
        generalize (i - n) / 16 = q at *
        generalize (i - n) % 16 = r at *
        generalize hke : i - n = kk at *
        have HKE := Lib.hid hke
        clear hke
        generalize ds.getD q 0 = old at *
        have hq0 : (0 : Int) ≤ (q : Int) ∧ (q : Int) < (L : Int) + 1 := by omega
        go_wp2_with fail
        go_loop [9, 10] (fun u s => ∃ k z : Nat, k ≤ r ∧ s = .int .i64 k ∧ u = .int .u64 z ∧ Hid (z = 2 ^ k)) (fun _ s => r - (intOf s).toNat)
        case atStart => exact ⟨0, 1, Nat.zero_le _, rfl, rfl, Lib.hid (by simp)⟩
        case round =>
          obtain ⟨k, z, hk, rfl, rfl, hrel⟩ := hrel
          by_cases hkr : k < r
          · have hzb : z < 65536 := by rw [hrel.out]; exact pow16_lt (by omega)
            have hwz : IntKind.u64.wrap (2 * (z : Int)) = 2 * (z : Int) := by rw [IntKind.wrap_u64]; omega
            have hlt3 : (k : Int) < r := by omega
            go_wp2_with fail
            go_round
            case rel => exact ⟨k + 1, 2 * z, hkr, by go_num, congrArg _ (by omega), Lib.hid (by rw [hrel.out, Nat.pow_succ, Nat.mul_comm])⟩
            case measure => simp only [intOf]; omega
          · have hkr2 : k = r := by omega
            have hlt3 : ¬ ((k : Int) < r) := by omega
            have hz : 2 ^ r = z := by rw [hrel.out, hkr2]
            rw [hz] at s1 HS2
            have hwz : IntKind.u64.wrap ((old : Int) + z) = (old : Int) + z := by rw [IntKind.wrap_u64]; omega
            have HR7 := HR6.out (old + z)
            rw [show ((old + z : Nat) : Int) = (old : Int) + z from by omega] at HR7
            have HR7 := Lib.hid HR7
            clear hz
            go_wp2_with fail
            go_roundw
            case rel => exact ⟨i + 1, by omega, .inr (by omega), by go_num, _, HS2.out, HR7.out⟩
            case measure => simp only [intOf]; omega
      · rw [decide_eq_false hbit]
        have HS2 := Lib.hid (HM.out.zero hni hbit)
        clear hbit
        go_wp2_with fail
        go_roundw
        case rel => exact ⟨i + 1, by omega, .inr (by omega), by go_num, _, HS2.out, HR5.out⟩
        case measure => simp only [intOf]; omega
    · have hlt : ¬ ((i : Int) < (Dg.bl V : Nat)) := by omega
      have HV := Lib.hid (HM.out.done (by omega))
      have HDS := Lib.hid HM.out.2.1
      have HLN := Lib.hid HM.out.1
      generalize hBL : Dg.bl V = BL at *
      clear HM
      go_wp2_with fail
      refine CL2.out.mono ?_
      rintro e w4 ⟨rfl, hb4⟩
      have HR4 := Lib.hid (HR.out.below hb4)
      have HJ := Lib.hid (join_calls _ _ w4 (HR4.out.nv (Ws16 HDS.out)) HDS.out (by rw [HLN.out]; omega))
      rw [HV.out] at HJ
      have hbw := Lib.hid HR4.out.2.2
      clear hb4 CL2
      go_wp2_with fail
      refine HJ.out.mono ?_
      rintro e w5 ⟨v', rfl, hn, hb⟩
      obtain ⟨a8, c8, rfl⟩ := hn.slice
      have HN := Lib.hid (hn.mono (Nat.le_trans HB2.out.size hbw.out.size))
      have HB5 := Lib.hid (HB2.out.trans ((hbw.out.trans (hb.mono hbw.out.size)).mono HB2.out.size))
      clear hn hb
      go_wp2_with fail
      go_ret2
      exact ⟨_, rfl, HN.out, HB5.out⟩

end Go.Proofs.YthlpfhenaakljaaGreatDoor

namespace Go.Proofs.YthlpfhenaakljaaGreatDoor
open Go.RowKit

/-- Two naturals of the call's own. -/
structure AB (w : World) (va vb : Value) (A B : Nat) (wx : World) : Prop where
  na : No w.heap.size wx va (Dg.db B64 A)
  nb : No w.heap.size wx vb (Dg.db B64 B)
  bel : Below w.heap.size w wx
theorem AB.call {w wx wy : World} {va vb : Value} {A B : Nat} (h : AB w va vb A B wx) (hb : Below wx.heap.size wx wy) : AB w va vb A B wy :=
  ⟨h.na.below hb, h.nb.below hb, h.bel.trans (hb.mono h.bel.size)⟩
theorem AB.left {w wx wy : World} {va vb v : Value} {A B C : Nat} (h : AB w va vb A B wx) (hb : Below wx.heap.size wx wy) (hn : No wx.heap.size wy v (Dg.db B64 C)) : AB w v vb C B wy :=
  ⟨hn.mono h.bel.size, h.nb.below hb, h.bel.trans (hb.mono h.bel.size)⟩
theorem AB.right {w wx wy : World} {va vb v : Value} {A B C : Nat} (h : AB w va vb A B wx) (hb : Below wx.heap.size wx wy) (hn : No wx.heap.size wy v (Dg.db B64 C)) : AB w va v A C wy :=
  ⟨h.na.below hb, hn.mono h.bel.size, h.bel.trans (hb.mono h.bel.size)⟩

theorem bit0_can {w : World} {v : Value} {A : Nat} (h : Nv w v (Dg.db B64 A)) (hl : (Dg.db B64 A).length ≤ 1048576) :
    Calls Tryz.prog 104 #[v, .int .i64 0] w (fun e w' => e = .returned (.bool (decide (A % 2 = 1))) ∧ Below w.heap.size w w') := by
  have := bit2_calls v _ 0 0 rfl w h hl (by decide)
  rwa [Dg.dv_db (by decide), Nat.pow_zero, Nat.div_one] at this
theorem half_can {w : World} {v : Value} {A : Nat} (h : Nv w v (Dg.db B64 A)) (hl : (Dg.db B64 A).length ≤ 524288) :
    Calls Tryz.prog 105 #[v, .int .i64 1] w (fun e w' => ∃ v', e = .returned (.tuple #[v', .int .i64 0]) ∧ No w.heap.size w' v' (Dg.db B64 (A / 2)) ∧ Below w.heap.size w w') := by
  have := shr2_calls v _ 1 1 rfl w h hl (by decide)
  rwa [Dg.dv_db (by decide), Nat.pow_one] at this
theorem small_can {w : World} {v : Value} {A : Nat} (h : Nv w v (Dg.db B64 A)) (hl : (Dg.db B64 A).length ≤ 1048576) :
    Calls Tryz.prog 106 #[v] w (fun e w' => e = .returned (.tuple #[.int .u64 (if A < B64 then A else 0 : Nat), .bool (decide (A < B64))]) ∧ Below w.heap.size w w') := by
  have := small2_calls v _ w h hl
  rwa [Dg.dv_db (by decide)] at this
theorem cmp_can {w : World} {v v' : Value} {A B : Nat} (h : Nv w v (Dg.db B64 A)) (h' : Nv w v' (Dg.db B64 B)) (hl : (Dg.db B64 A).length ≤ 1048576) (hl' : (Dg.db B64 B).length ≤ 1048576) :
    Calls Tryz.prog 70 #[v, v'] w (fun e w' => e = .returned (.int .i64 (Dg.cmpZ A B)) ∧ Below w.heap.size w w') := by
  have := cmp2_calls v v' _ _ w h h' hl hl'
  rwa [Dg.dv_db (by decide), Dg.dv_db (by decide)] at this
theorem sub_can {w : World} {v v' : Value} {A B : Nat} (h : Nv w v (Dg.db B64 A)) (h' : Nv w v' (Dg.db B64 B)) (hl : (Dg.db B64 A).length ≤ 1048576) (hl' : (Dg.db B64 B).length ≤ 1048576) (hle : B ≤ A) :
    Calls Tryz.prog 71 #[v, v'] w (fun e w' => ∃ v, e = .returned (.tuple #[v, .int .i64 0]) ∧ No w.heap.size w' v (Dg.db B64 (A - B)) ∧ Below w.heap.size w w') := by
  have := sub2_calls v v' _ _ w h h' hl hl' (by rw [Dg.dv_db (by decide), Dg.dv_db (by decide)]; exact hle)
  rwa [Dg.dv_db (by decide), Dg.dv_db (by decide)] at this
theorem add_can {w : World} {v v' : Value} {A B : Nat} (h : Nv w v (Dg.db B64 A)) (h' : Nv w v' (Dg.db B64 B)) (hl : (Dg.db B64 A).length ≤ 1048576) (hl' : (Dg.db B64 B).length ≤ 1048576) :
    Calls Tryz.prog 69 #[v, v'] w (RetN (Dg.db B64 (A + B)) w) := by
  have := add2_calls v v' _ _ w h h' hl hl'
  rwa [Dg.dv_db (by decide), Dg.dv_db (by decide)] at this
theorem shl_can {w : World} {v : Value} {A n : Nat} (h : Nv w v (Dg.db B64 A)) (hl : (Dg.db B64 A).length ≤ 524288) (hn : n ≤ 65536) :
    Calls Tryz.prog 108 #[v, .int .i64 n] w (fun e w' => ∃ v', e = .returned (.tuple #[v', .int .i64 0]) ∧ No w.heap.size w' v' (Dg.db B64 (A * 2 ^ n)) ∧ Below w.heap.size w w') := by
  have := shl2_calls v _ n n rfl w h hl hn
  rwa [Dg.dv_db (by decide)] at this

theorem db_len_pos {A : Nat} (h : A ≠ 0) : 0 < (Dg.db B64 A).length := by
  rcases Nat.eq_zero_or_pos (Dg.db B64 A).length with h0 | h0
  · exact absurd ((Dg.db_nil_iff (by decide)).1 (List.eq_nil_of_length_eq_zero h0)) h
  · exact h0

/-- The first loop: both are halved. -/
def TwosAt (A0 B0 A B t : Nat) : Prop := A ≠ 0 ∧ B ≠ 0 ∧ Nat.gcd A0 B0 = 2 ^ t * Nat.gcd A B ∧ A * 2 ^ t ≤ A0 ∧ B * 2 ^ t ≤ B0
theorem TwosAt.start {A0 B0 : Nat} (hA : A0 ≠ 0) (hB : B0 ≠ 0) : TwosAt A0 B0 A0 B0 0 := ⟨hA, hB, by simp, by simp, by simp⟩
theorem TwosAt.step {A0 B0 A B t : Nat} (h : TwosAt A0 B0 A B t) (ha : A % 2 = 0) (hb : B % 2 = 0) : TwosAt A0 B0 (A / 2) (B / 2) (t + 1) := by
  obtain ⟨h1, h2, h3, h4, h5⟩ := h
  refine ⟨by omega, by omega, ?_, ?_, ?_⟩
  · rw [h3, Dg.gcd_half_both ha hb, Nat.pow_succ, Nat.mul_assoc]
  · rw [Nat.pow_succ, Nat.mul_comm (2 ^ t), ← Nat.mul_assoc, Nat.div_mul_cancel (Nat.dvd_of_mod_eq_zero ha)]; exact h4
  · rw [Nat.pow_succ, Nat.mul_comm (2 ^ t), ← Nat.mul_assoc, Nat.div_mul_cancel (Nat.dvd_of_mod_eq_zero hb)]; exact h5
theorem TwosAt.le {A0 B0 A B t : Nat} (h : TwosAt A0 B0 A B t) : A ≤ A0 ∧ B ≤ B0 :=
  ⟨Nat.le_trans (Nat.le_mul_of_pos_right _ (Nat.two_pow_pos t)) h.2.2.2.1, Nat.le_trans (Nat.le_mul_of_pos_right _ (Nat.two_pow_pos t)) h.2.2.2.2⟩
theorem TwosAt.tk {A0 B0 A B t k : Nat} (h : TwosAt A0 B0 A B t) (hl : (Dg.db B64 A0).length ≤ k) : t ≤ 64 * k := by
  refine Nat.le_of_lt (Nat.lt_of_not_le fun h2 => ?_)
  have h3 := Dg.lt_pow_length (b := B64) (by decide) A0
  have h4 : B64 ^ (Dg.db B64 A0).length ≤ B64 ^ k := Nat.pow_le_pow_right (by decide) hl
  have h5 : B64 ^ k = 2 ^ (64 * k) := by rw [show B64 = 2 ^ 64 by decide, ← Nat.pow_mul]
  have h6 : 2 ^ (64 * k) ≤ 2 ^ t := Nat.pow_le_pow_right (by decide) h2
  have h7 : 1 * 2 ^ t ≤ A * 2 ^ t := Nat.mul_le_mul_right _ (by have := h.1; omega)
  have h8 := h.2.2.2.1
  omega
theorem TwosAt.t {A0 B0 A B t : Nat} (h : TwosAt A0 B0 A B t) (hl : (Dg.db B64 A0).length ≤ 1024) : t ≤ 65536 := h.tk hl
/-- One of them is odd: so is the divisor. -/
theorem gcd_odd {A B : Nat} (h : ¬ (A % 2 = 0 ∧ B % 2 = 0)) : Nat.gcd A B % 2 = 1 := by
  refine Classical.byContradiction fun h2 => h ?_
  have hd : 2 ∣ Nat.gcd A B := Nat.dvd_of_mod_eq_zero (by omega)
  exact ⟨Nat.mod_eq_zero_of_dvd (Nat.dvd_trans hd (Nat.gcd_dvd_left _ _)), Nat.mod_eq_zero_of_dvd (Nat.dvd_trans hd (Nat.gcd_dvd_right _ _))⟩

/-- The second loop. -/
def OddAt (A0 B0 G A B : Nat) : Prop := Nat.gcd A B = G ∧ G % 2 = 1 ∧ A ≤ A0 + B0 ∧ B ≤ A0 + B0

end Go.Proofs.YthlpfhenaakljaaGreatDoor
