/- word.Add, word.Sub, word.Mul. Plain laws: digits of sixteen bits, as the reference keeps them. nat.Add's and nat.Sub's closures; nat.each with each of them. nat.each with each closure; nat.Add, nat.Sub. nat.Mul. nat.from, nat.shifted, nat.may, nat.Shl, nat.Shr. nat.shifted, nat.may, nat.Shl, nat.Shr, nat.Of. math/bits.Div64: what stands in its slots, as plain laws. math/bits.Div64: the walk. append(x, make(api.Nat, m)...): zeros behind a row of the call's own. word.Div, quo.guess, quo.short. -/
import Derived.Test.YthlpfhenaakljaaGreatDoorL01
import Derived.Test.YthlpfhenaakljaaGreatDoorShelf
import Derived.Shelf.Spec.BitsCarry
namespace Go.Proofs.YthlpfhenaakljaaGreatDoor
open Go.RowKit

theorem run_bits_Add64 (x y c : Nat) (hc : c ≤ 1) (w : World) :
    (callFunc 94 #[.int .u64 x, .int .u64 y, .int .u64 c]).run Tryz.prog w = .ok (.value (.tuple #[.int .u64 ((x + y + c) % B64 : Nat), .int .u64 ((x + y + c) / B64 : Nat)])) w := by
  rw [run_callFunc_extern Tryz.func94 (by kernel_rfl) (by kernel_rfl) (by kernel_rfl) (e := add64Entry) (by kernel_rfl), run_add64 x y c (by omega) (by omega) (by omega) (by omega)]
  simp only [Result.andThen]
  congr 5 <;> (unfold B64; omega)

theorem run_bits_Sub64 (x y b : Nat) (hb : b ≤ 1) (w : World) :
    (callFunc 126 #[.int .u64 x, .int .u64 y, .int .u64 b]).run Tryz.prog w = .ok (.value (.tuple #[.int .u64 ((x + B64 - y - b) % B64 : Nat), .int .u64 ((if x < y + b then 1 else 0 : Nat) : Int)])) w := by
  rw [run_callFunc_extern Tryz.func126 (by kernel_rfl) (by kernel_rfl) (by kernel_rfl) (e := sub64Entry) (by kernel_rfl), run_sub64 x y b hb]
  rfl

set_option maxHeartbeats 400000 in
theorem wadd_calls (x y c : Nat) (w : World) :
    Calls Tryz.prog 61 #[.int .u64 x, .int .u64 y, .int .u64 c] w fun e w' => e = .returned (.tuple #[.int .u64 ((x + y + min c 1) % B64 : Nat), .int .u64 ((x + y + min c 1) / B64 : Nat)]) ∧ w = w' := by
  have hadd := fun w => run_bits_Add64 x y (min c 1) (by omega) w
  have hone := Lib.hid (one_calls c w)
  generalize min c 1 = d at *
  generalize (x + y + d) % B64 = p at *
  generalize (x + y + d) / B64 = q at *
  go_enter Tryz.func61, Tryz.ntmps61
  go_wp2_with fail
  refine (hone.out).mono ?_
  rintro e w' ⟨rfl, rfl⟩
  go_wp2_with fail
  go_ret2
  exact ⟨rfl, rfl⟩

set_option maxHeartbeats 400000 in
theorem wsub_calls (x y c : Nat) (w : World) :
    Calls Tryz.prog 113 #[.int .u64 x, .int .u64 y, .int .u64 c] w fun e w' => e = .returned (.tuple #[.int .u64 ((x + B64 - y - min c 1) % B64 : Nat), .int .u64 ((if x < y + min c 1 then 1 else 0 : Nat) : Int)]) ∧ w = w' := by
  have hsub := fun w => run_bits_Sub64 x y (min c 1) (by omega) w
  have hone := Lib.hid (one_calls c w)
  generalize min c 1 = d at *
  generalize (x + B64 - y - d) % B64 = p at *
  generalize (if x < y + d then 1 else 0 : Nat) = q at *
  go_enter Tryz.func113, Tryz.ntmps113
  go_wp2_with fail
  refine (hone.out).mono ?_
  rintro e w' ⟨rfl, rfl⟩
  go_wp2_with fail
  go_ret2
  exact ⟨rfl, rfl⟩

set_option maxHeartbeats 400000 in
theorem wmul_calls (x y : Nat) (w : World) (hx : x < B64) (hy : y < B64) :
    Calls Tryz.prog 60 #[.int .u64 x, .int .u64 y] w fun e w' => e = .returned (.tuple #[.int .u64 (x * y / B64 : Nat), .int .u64 (x * y % B64 : Nat)]) ∧ w = w' := by
  have hm : ∀ w, Calls Tryz.prog 93 #[.int .u64 x, .int .u64 y] w fun e w' => e = .returned (.tuple #[.int .u64 (x * y / B64 : Nat), .int .u64 (x * y % B64 : Nat)]) ∧ w = w' :=
    fun w => (Tryz.bits_Mul64 x y hx hy w).mono fun e w' h => ⟨h.1, h.2.symm⟩
  have hM := Lib.hid hm
  clear hm hx hy
  generalize x * y / B64 = p at *
  generalize x * y % B64 = q at *
  go_enter Tryz.func60, Tryz.ntmps60
  go_wp2_with fail
  refine (hM.out w).mono ?_
  rintro e w' ⟨rfl, rfl⟩
  go_wp2_with fail
  go_ret2
  exact ⟨rfl, rfl⟩

end Go.Proofs.YthlpfhenaakljaaGreatDoor

namespace Go.Proofs.YthlpfhenaakljaaGreatDoor.Dg

/-- A limb's four digits. -/
def four (x : Nat) : List Nat := [x % 65536, x / 65536 % 65536, x / 65536 / 65536 % 65536, x / 65536 / 65536 / 65536 % 65536]
def flat (xs : List Nat) : List Nat := xs.flatMap four

theorem flat_snoc (xs : List Nat) (x : Nat) : flat (xs ++ [x]) = flat xs ++ four x := by simp [flat]
theorem Ds_four (x : Nat) : Ds 65536 (four x) := by
  intro y hy
  simp [four] at hy
  omega
theorem Ds_flat (xs : List Nat) : Ds 65536 (flat xs) := by
  intro y hy
  obtain ⟨x, _, h⟩ := List.mem_flatMap.1 hy
  exact Ds_four x y h
theorem flat_length (xs : List Nat) : (flat xs).length = 4 * xs.length := by
  induction xs with
  | nil => rfl
  | cons x xs ih =>
    have e : flat (x :: xs) = four x ++ flat xs := rfl
    rw [e, List.length_append, ih]
    simp [four]; omega
theorem dv_flat (xs : List Nat) (h : Ds 18446744073709551616 xs) : dv 65536 (flat xs) = dv 18446744073709551616 xs := by
  induction xs with
  | nil => rfl
  | cons x xs ih =>
    have hx := h.head
    have hi := ih h.tail
    have e : flat (x :: xs) = four x ++ flat xs := rfl
    rw [e, dv_append, hi]
    simp only [four, dv, List.length_cons, List.length_nil]
    generalize dv 18446744073709551616 xs = V
    omega

theorem digit_join (D V k e : Nat) : V / D ^ k % D ^ (e + 1) = (V / D ^ (k + 1) % D ^ e) * D + V / D ^ k % D := by
  have h : D ^ (e + 1) = D * D ^ e := by rw [Nat.pow_succ, Nat.mul_comm]
  rw [h, Nat.mod_mul, Nat.pow_succ, ← Nat.div_div_eq_div_mul, Nat.mul_comm, Nat.add_comm]

theorem take_db {b : Nat} (hb : 2 ≤ b) (V j : Nat) (hj : j < (db b V).length) : (db b V).take (j + 1) = (db b V).take j ++ [V / b ^ j % b] := by
  have h := getD_eq (b := b) (by omega) (db b V) (db_Ds hb V) j
  rw [dv_db hb] at h
  rw [List.take_succ_eq_append_getElem hj, ← h]
  simp [List.getD, hj]

theorem limbs_more {V j : Nat} (h : 4 * j < (db 65536 V).length) : j < (db 18446744073709551616 V).length := by
  refine Nat.lt_of_not_le fun h2 => ?_
  have h3 := lt_pow_length (b := 18446744073709551616) (by decide) V
  have h4 : (18446744073709551616 : Nat) ^ (db 18446744073709551616 V).length ≤ 18446744073709551616 ^ j := Nat.pow_le_pow_right (by decide) h2
  have h5 : (18446744073709551616 : Nat) ^ j = 65536 ^ (4 * j) := by rw [Nat.pow_mul]
  have := db_length (b := 65536) (n := V) (k := 4 * j) (by decide) (by omega)
  omega

theorem limbs_done {V j : Nat} (h : (db 65536 V).length ≤ 4 * j) : (db 18446744073709551616 V).length ≤ j := by
  have h3 := lt_pow_length (b := 65536) (by decide) V
  have h4 : (65536 : Nat) ^ (db 65536 V).length ≤ 65536 ^ (4 * j) := Nat.pow_le_pow_right (by decide) h
  have h5 : (18446744073709551616 : Nat) ^ j = 65536 ^ (4 * j) := by rw [Nat.pow_mul]
  exact db_length (by decide) (by omega)

theorem db_len4 (V : Nat) : (db 65536 V).length ≤ 4 * (db 18446744073709551616 V).length := by
  refine db_length (by decide) ?_
  have h3 := lt_pow_length (b := 18446744073709551616) (by decide) V
  have h5 : (18446744073709551616 : Nat) ^ (db 18446744073709551616 V).length = 65536 ^ (4 * (db 18446744073709551616 V).length) := by rw [Nat.pow_mul]
  omega

/-- The bit at a place, by the digits. -/
theorem bit_digit (V n : Nat) : V / 65536 ^ (n / 16) % 65536 / 2 ^ (n % 16) % 2 = V / 2 ^ n % 2 := by
  have e : (65536 : Nat) ^ (n / 16) = 2 ^ (16 * (n / 16)) := by rw [Nat.pow_mul]
  have e2 : (2 : Nat) ^ n = 2 ^ (16 * (n / 16)) * 2 ^ (n % 16) := by rw [← Nat.pow_add, Nat.div_add_mod]
  rw [e, e2, ← Nat.div_div_eq_div_mul]
  generalize V / 2 ^ (16 * (n / 16)) = W
  have hr : n % 16 < 16 := Nat.mod_lt _ (by decide)
  generalize n % 16 = r at *
  rcases (show r = 0 ∨ r = 1 ∨ r = 2 ∨ r = 3 ∨ r = 4 ∨ r = 5 ∨ r = 6 ∨ r = 7 ∨ r = 8 ∨ r = 9 ∨ r = 10 ∨ r = 11 ∨ r = 12 ∨ r = 13 ∨ r = 14 ∨ r = 15 by omega) with rfl | rfl | rfl | rfl | rfl | rfl | rfl | rfl | rfl | rfl | rfl | rfl | rfl | rfl | rfl | rfl <;> omega

theorem bit_room {x r : Nat} (hx : x < 65536) (hr : r < 16) (h : x / 2 ^ r % 2 = 0) : x + 2 ^ r < 65536 := by
  rcases (show r = 0 ∨ r = 1 ∨ r = 2 ∨ r = 3 ∨ r = 4 ∨ r = 5 ∨ r = 6 ∨ r = 7 ∨ r = 8 ∨ r = 9 ∨ r = 10 ∨ r = 11 ∨ r = 12 ∨ r = 13 ∨ r = 14 ∨ r = 15 by omega) with rfl | rfl | rfl | rfl | rfl | rfl | rfl | rfl | rfl | rfl | rfl | rfl | rfl | rfl | rfl | rfl <;> omega

/-- A bit that was 0 is put into digits. -/
theorem bit_set {ls : List Nat} {k : Nat} (h : Ds 65536 ls) (hk : k / 16 < ls.length) (h0 : dv 65536 ls / 2 ^ k % 2 = 0) :
    ls.getD (k / 16) 0 + 2 ^ (k % 16) < 65536 ∧ Ds 65536 (ls.set (k / 16) (ls.getD (k / 16) 0 + 2 ^ (k % 16))) ∧ dv 65536 (ls.set (k / 16) (ls.getD (k / 16) 0 + 2 ^ (k % 16))) = dv 65536 ls + 2 ^ k := by
  have h1 : ls.getD (k / 16) 0 + 2 ^ (k % 16) < 65536 := by
    refine bit_room (Ds.getD (by decide) h _) (Nat.mod_lt _ (by decide)) ?_
    rw [getD_eq (by decide) ls h, bit_digit, h0]
  refine ⟨h1, h.set _ h1, ?_⟩
  have h2 := dv_set (b := 65536) ls (k / 16) (ls.getD (k / 16) 0 + 2 ^ (k % 16)) hk
  have e : (2 : Nat) ^ k = 65536 ^ (k / 16) * 2 ^ (k % 16) := by
    have e1 : (65536 : Nat) ^ (k / 16) = 2 ^ (16 * (k / 16)) := by rw [Nat.pow_mul]
    rw [e1, ← Nat.pow_add, Nat.div_add_mod]
  rw [e]
  rw [Nat.mul_add] at h2
  omega

/-- Behind bit i of A, from bit n on. -/
theorem shr_next {A n i : Nat} (hi : n ≤ i) : A % 2 ^ (i + 1) / 2 ^ n = A % 2 ^ i / 2 ^ n + (A / 2 ^ i % 2) * 2 ^ (i - n) := by
  have e : (2 : Nat) ^ i = 2 ^ n * 2 ^ (i - n) := by rw [← Nat.pow_add]; congr 1; omega
  have hp := Nat.two_pow_pos n
  rw [Nat.pow_succ, Nat.mod_mul]
  generalize A / 2 ^ i % 2 = c
  generalize A % 2 ^ i = x
  rw [e, Nat.mul_assoc, Nat.add_mul_div_left _ _ hp, Nat.mul_comm c]

theorem shr_bit0 {A n i : Nat} (hi : n ≤ i) : A % 2 ^ i / 2 ^ n / 2 ^ (i - n) % 2 = 0 := by
  have e : (2 : Nat) ^ i = 2 ^ n * 2 ^ (i - n) := by rw [← Nat.pow_add]; congr 1; omega
  rw [Nat.div_div_eq_div_mul, ← e, Nat.div_eq_of_lt (Nat.mod_lt _ (Nat.two_pow_pos i))]

theorem shr_start (A n : Nat) : A % 2 ^ n / 2 ^ n = 0 := Nat.div_eq_of_lt (Nat.mod_lt _ (Nat.two_pow_pos n))

/-- Dividing place by place: the places from i on. -/
theorem div_next {A b i : Nat} (hb : 0 < b) : (2 * (A / 2 ^ (i + 1) % b) + A / 2 ^ i % 2 < b → A / 2 ^ i / b = 2 * (A / 2 ^ (i + 1) / b) ∧ A / 2 ^ i % b = 2 * (A / 2 ^ (i + 1) % b) + A / 2 ^ i % 2) ∧
    (b ≤ 2 * (A / 2 ^ (i + 1) % b) + A / 2 ^ i % 2 → A / 2 ^ i / b = 2 * (A / 2 ^ (i + 1) / b) + 1 ∧ A / 2 ^ i % b = 2 * (A / 2 ^ (i + 1) % b) + A / 2 ^ i % 2 - b) := by
  have e : A / 2 ^ (i + 1) = A / 2 ^ i / 2 := by rw [Nat.pow_succ, Nat.div_div_eq_div_mul]
  rw [e]
  generalize A / 2 ^ i = W
  have h1 := Nat.div_add_mod (W / 2) b
  have h2 := Nat.mod_lt (W / 2) hb
  have h3 := Nat.div_add_mod W 2
  generalize W / 2 / b = q at *
  generalize W / 2 % b = r at *
  generalize W / 2 = H at *
  have hc' : W % 2 < 2 := Nat.mod_lt _ (by decide)
  generalize W % 2 = c at *
  subst h1
  have hc : W = b * (2 * q) + (2 * r + c) := by rw [← h3]; grind
  have hc2 : b ≤ 2 * r + c → W = b * (2 * q + 1) + (2 * r + c - b) := fun h => by rw [hc, Nat.mul_add]; omega
  constructor
  · intro h
    rw [hc]
    exact ⟨by rw [Nat.mul_add_div hb, Nat.div_eq_of_lt h, Nat.add_zero], by rw [Nat.mul_add_mod, Nat.mod_eq_of_lt h]⟩
  · intro h
    have hlt : c < 2 → 2 * r + c - b < b := by omega
    rw [hc2 h]
    exact ⟨by rw [Nat.mul_add_div hb, Nat.div_eq_of_lt (hlt hc'), Nat.add_zero], by rw [Nat.mul_add_mod, Nat.mod_eq_of_lt (hlt hc')]⟩

theorem gcd_half_both {a b : Nat} (ha : a % 2 = 0) (hb : b % 2 = 0) : Nat.gcd a b = 2 * Nat.gcd (a / 2) (b / 2) := by
  rw [← Nat.gcd_mul_left, Nat.mul_div_cancel' (Nat.dvd_of_mod_eq_zero ha), Nat.mul_div_cancel' (Nat.dvd_of_mod_eq_zero hb)]

theorem gcd_half_left {a b : Nat} (ha : a % 2 = 0) (hg : Nat.gcd a b % 2 = 1) : Nat.gcd (a / 2) b = Nat.gcd a b := by
  have hb : b % 2 = 1 := by
    refine Classical.byContradiction fun h => ?_
    have : 2 ∣ Nat.gcd a b := Nat.dvd_gcd (Nat.dvd_of_mod_eq_zero ha) (Nat.dvd_of_mod_eq_zero (by omega))
    omega
  have hc : Nat.Coprime 2 b := by
    unfold Nat.Coprime
    rw [Nat.gcd_rec, hb]; decide
  conv => rhs; rw [← Nat.mul_div_cancel' (Nat.dvd_of_mod_eq_zero ha)]
  rw [Nat.Coprime.gcd_mul_left_cancel _ hc]

theorem gcd_half_right {a b : Nat} (hb : b % 2 = 0) (hg : Nat.gcd a b % 2 = 1) : Nat.gcd a (b / 2) = Nat.gcd a b := by
  rw [Nat.gcd_comm, gcd_half_left hb (by rw [Nat.gcd_comm]; exact hg), Nat.gcd_comm]

theorem gcd_less_left {a b : Nat} (h : b ≤ a) : Nat.gcd (a - b) b = Nat.gcd a b := by
  rw [Nat.gcd_comm, Nat.gcd_comm a]
  conv => rhs; rw [← Nat.sub_add_cancel h]
  rw [Nat.gcd_add_self_right]

theorem gcd_less_right {a b : Nat} (h : a ≤ b) : Nat.gcd a (b - a) = Nat.gcd a b := by
  conv => rhs; rw [← Nat.sub_add_cancel h]
  rw [Nat.gcd_add_self_right]

end Go.Proofs.YthlpfhenaakljaaGreatDoor.Dg

namespace Go.Proofs.YthlpfhenaakljaaGreatDoor
open Go.RowKit

/-- Behind a step of the closure: the new carry in its block; nothing else turned. -/
def Stepped (cb : Nat) (w : World) (r c : Nat) (e : Ending) (w' : World) : Prop :=
  e = .returned (.int .u64 r) ∧ w'.heap[cb]? = some (.cells #[.int .u64 c] 43 (0, 0)) ∧ w.grownBy w' (some cb)

theorem grownBy_setCell (w : World) (cb o : Nat) (u : Value) : w.grownBy (w.setCell ⟨cb, o, none⟩ u) (some cb) :=
  ⟨rfl, rfl, rfl, by simp, fun k _ hk => heap_setCell_other w ⟨cb, o, none⟩ k u (fun e => hk (by simp [e]))⟩

set_option maxHeartbeats 400000 in
theorem addstep_calls (x y c cb : Nat) (w : World) (hc : w.heap[cb]? = some (.cells #[.int .u64 c] 43 (0, 0))) :
    Calls Tryz.prog 116 #[.int .u64 x, .int .u64 y, .pointer (some ⟨cb, 0, none⟩)] w (Stepped cb w ((x + y + min c 1) % B64) ((x + y + min c 1) / B64)) := by
  have hadd := Lib.hid (wadd_calls x y c w)
  generalize (x + y + min c 1) % B64 = p at *
  generalize (x + y + min c 1) / B64 = q at *
  have hcell := cell_of_one hc
  have hfree := free_of_one hc
  have H := Lib.hid hc
  clear hc
  go_enter Tryz.func116, Tryz.ntmps116
  go_wp2_with fail
  refine (hadd.out).mono ?_
  rintro e w' ⟨rfl, rfl⟩
  go_wp2_with fail
  go_ret
  exact ⟨rfl, one_setCell H.out, grownBy_setCell _ _ _ _⟩

set_option maxHeartbeats 400000 in
theorem substep_calls (x y c cb : Nat) (w : World) (hc : w.heap[cb]? = some (.cells #[.int .u64 c] 43 (0, 0))) :
    Calls Tryz.prog 123 #[.int .u64 x, .int .u64 y, .pointer (some ⟨cb, 0, none⟩)] w (Stepped cb w ((x + B64 - y - min c 1) % B64) (if x < y + min c 1 then 1 else 0)) := by
  have hadd := Lib.hid (wsub_calls x y c w)
  generalize (x + B64 - y - min c 1) % B64 = p at *
  generalize (if x < y + min c 1 then 1 else 0) = q at *
  have hcell := cell_of_one hc
  have hfree := free_of_one hc
  have H := Lib.hid hc
  clear hc
  go_enter Tryz.func123, Tryz.ntmps123
  go_wp2_with fail
  refine (hadd.out).mono ?_
  rintro e w' ⟨rfl, rfl⟩
  go_wp2_with fail
  go_ret
  exact ⟨rfl, one_setCell H.out, grownBy_setCell _ _ _ _⟩

/-- What each keeps in its rounds. -/
def EachAt (w0 wr : World) (cb g n k : Nat) (ds : List Nat) (c : Nat) : Prop :=
  wr.ownsRow w0.heap.size 43 1 (.slice (some ⟨g, 0, none⟩) n n) n (us (ds ++ List.replicate (n - k) 0)) ∧
  wr.heap[cb]? = some (.cells #[.int .u64 c] 43 (0, 0)) ∧ Below w0.heap.size w0 wr ∧ g < wr.heap.size ∧ cb ≠ g

theorem us_append (xs ys : List Nat) : us (xs ++ ys) = us xs ++ us ys := by simp [us]
theorem us_set (xs : List Nat) (i v : Nat) : us (xs.set i v) = (us xs).set i (.int .u64 (v : Int)) := by simp [us, List.map_set]
theorem us_replicate (n : Nat) : us (List.replicate n 0) = List.replicate n (.int .u64 0) := by simp [us]
theorem us_getD (xs : List Nat) (j : Nat) (hj : j < xs.length) : (us xs)[j]? = some (.int .u64 (xs.getD j 0 : Nat)) := by simp [us, hj]

theorem EachAt.cell {w0 wr : World} {cb g n k : Nat} {ds : List Nat} {c : Nat} (h : EachAt w0 wr cb g n k ds c) (hk : k < n) (hl : ds.length = k) : wr.cell? ⟨g, k, none⟩ = some (.int .u64 0) := by
  rw [World.ownsRow.cellAt h.1 k (by simpa using hk), us_getD _ _ (by simp; omega)]
  simp [List.getD, hl, show 0 < n - k by omega]

theorem EachAt.stepped {w0 wr w1 : World} {cb g n k : Nat} {ds : List Nat} {c c' : Nat} (h : EachAt w0 wr cb g n k ds c) (h1 : w1.heap[cb]? = some (.cells #[.int .u64 c'] 43 (0, 0)))
    (hg : wr.grownBy w1 (some cb)) (hcb : w0.heap.size ≤ cb) : EachAt w0 w1 cb g n k ds c' := by
  obtain ⟨a1, a2, a3, a4, a5⟩ := h
  exact ⟨a1.kept hg (.inr (by simp [Value.ownBlock]; omega)), h1, a3.grown hg a3.size (fun k hk => by simp at hk; omega), Nat.lt_of_lt_of_le a4 hg.size, a5⟩

theorem EachAt.stored {w0 wr : World} {cb g n k : Nat} {ds : List Nat} {c r : Nat} (h : EachAt w0 wr cb g n k ds c) (hk : k < n) (hl : ds.length = k) :
    EachAt w0 (wr.setCell ⟨g, k, none⟩ (.int .u64 r)) cb g n (k + 1) (ds ++ [r]) c := by
  obtain ⟨a1, a2, a3, a4, a5⟩ := h
  have hs := World.ownsRow.stored a1 k (.int .u64 (r : Int))
  rw [← us_set] at hs
  have e : (ds ++ List.replicate (n - k) 0).set k r = ds ++ [r] ++ List.replicate (n - (k + 1)) 0 := by
    rw [show n - k = (n - (k + 1)) + 1 by omega, List.replicate_succ, ← hl, List.set_append_right _ _ (Nat.le_refl _)]
    simp
  rw [e] at hs
  have hb : w0.heap.size ≤ g := (World.ownsRow.lt a1 g (by simp [Value.ownBlock])).1
  exact ⟨hs.1, by rw [hs.2.block cb (lt_of_block a2) (by simpa using a5)]; exact a2, a3.setCell hb _, by simpa using a4, a5⟩

theorem EachAt.end' {w0 wr : World} {cb g n : Nat} {ds : List Nat} {c : Nat} (h : EachAt w0 wr cb g n n ds c) (hl : ds.length = n) (hd : Ws ds) : Nv wr (.slice (some ⟨g, 0, none⟩) n n) ds := by
  have a1 := h.1
  rw [Nat.sub_self, List.replicate_zero, List.append_nil] at a1
  have : No w0.heap.size wr (.slice (some ⟨g, 0, none⟩) n n) ds := ⟨hd, by rw [hl]; exact a1⟩
  exact this.nv

/-- A result of the call's own, told of an elder world. -/
def RetN0 (R : List Nat) (w0 : World) (e : Ending) (w' : World) : Prop := ∃ v, e = .returned v ∧ No w0.heap.size w' v R ∧ Below w0.heap.size w0 w'

end Go.Proofs.YthlpfhenaakljaaGreatDoor

namespace Go.Proofs.YthlpfhenaakljaaGreatDoor
open Go.RowKit

set_option maxHeartbeats 1600000 in
theorem eachadd_calls (v1 v2 : Value) (xs ys : List Nat) (cb : Nat) (w0 w : World) (h1 : Nv w0 v1 xs) (h2 : Nv w0 v2 ys) (l1 : xs.length ≤ 1099511627776) (l2 : ys.length ≤ 1099511627776)
    (hb0 : Below w0.heap.size w0 w) (hcb : w0.heap.size ≤ cb) (hc : w.heap[cb]? = some (.cells #[.int .u64 0] 43 (0, 0))) :
    Calls Tryz.prog 115 #[v1, v2, .func (.func 116) #[] #[.pointer (some ⟨cb, 0, none⟩)]] w (RetN0 (Dg.db B64 (Dg.dv B64 xs + Dg.dv B64 ys)) w0) := by
  obtain ⟨i0, hi, hz0, hz1, hz2⟩ := info_parts info_u64
  have hx := h1.1
  have hy := h2.1
  have k1 := fun (i : Int) wr (hb : Below w0.heap.size w0 wr) => limb_calls v1 xs i wr (h1.below hb) (by omega)
  have k2 := fun (i : Int) wr (hb : Below w0.heap.size w0 wr) => limb_calls v2 ys i wr (h2.below hb) (by omega)
  obtain ⟨_, a1, c1, rfl, hcap, _⟩ := h1
  obtain ⟨_, a2, c2, rfl, _, _⟩ := h2
  have K1 := Lib.hid k1
  have K2 := Lib.hid k2
  have HC := Lib.hid hc
  have hcbl := lt_of_block hc
  have hsz := hb0.size
  clear k1 k2 hc
  obtain ⟨n, hn1, hn2, hn3, hn4⟩ : ∃ n : Nat, xs.length < n ∧ ys.length < n ∧ n ≤ 1099511627777 ∧ (n ≤ xs.length + 1 ∨ n ≤ ys.length + 1) := ⟨max xs.length ys.length + 1, by omega, by omega, by omega, by omega⟩
  rcases Nat.lt_or_ge xs.length ys.length with hlt | hge
  all_goals
    go_enter Tryz.func115, Tryz.ntmps115
    go_wp2_with (at_make; refine wpList_make_full _ rfl _ _ 23 rfl w0.heap.size 43 i0 (.int .u64 0) 1 und_Nat hi hz0 hz1 .i64 .i64 _ _ n rfl rfl ?_ ?_ ?_ ?_ ?_ ?_)
    · omega
    · omega
    · rw [hz2]; omega
    · unfold maxLen; omega
    · omega
    intro w1 hown hg
    have hE : EachAt w0 w1 cb w.heap.size n 0 [] 0 := by
      refine ⟨?_, ?_, ?_, ?_, ?_⟩
      · have e : (madeCells #[Value.int IntKind.u64 0] n).toList = us ([] ++ List.replicate (n - 0) 0) := by
          rw [List.nil_append, us_replicate, Nat.sub_zero]; exact toList_madeCells_one _ _
        rw [← e]; exact hown
      · rw [hg.block cb hcbl (by simp)]; exact HC.out
      · exact hb0.grown hg hsz (fun k hk => by simp at hk)
      · exact (World.ownsRow.lt hown w.heap.size (by simp [Value.ownBlock])).2
      · omega
    have HE := Lib.hid hE
    clear hown hg hE
    generalize w.heap.size = g at *
    clear hcbl hsz HC hb0 hn4 hi hz0 hz1 hz2 hcap
    go_wp2_with fail
    go_loopw [18] (fun s wr => ∃ k : Nat, k ≤ n ∧ s = .int .i64 k ∧ Hid (∃ ds c, Dg.AddAt B64 xs ys k ds c ∧ EachAt w0 wr cb g n k ds c)) (fun s _ => n - (intOf s).toNat)
    case atStart => exact ⟨0, Nat.zero_le _, rfl, [], 0, Dg.AddAt.start _ _ _, HE.out⟩
    case round =>
      obtain ⟨k, hk, rfl, hrel⟩ := hrel
      obtain ⟨ds, c, hA, hE⟩ := hrel.out
      clear hrel
      by_cases hkn : k < n
      · have hbw := hE.2.2.1
        have hS := hA.step (by decide) hx hy
        rw [← limbAt_nat xs k, ← limbAt_nat ys k] at hS
        have HS := Lib.hid hS
        have HE := Lib.hid hE
        have hl := hA.1
        clear hA hE hS
        go_wp2_with fail
        refine (K1.out k wr hbw).mono ?_
        rintro e w' ⟨rfl, rfl⟩
        generalize limbAt xs (k : Int) = x at *
        go_wp2_with fail
        refine (K2.out k wr hbw).mono ?_
        rintro e w' ⟨rfl, rfl⟩
        generalize limbAt ys (k : Int) = y at *
        go_wp2_with fail
        refine (addstep_calls x y c cb wr HE.out.2.1).mono ?_
        rintro e w2 ⟨rfl, hc2, hg2⟩
        generalize (x + y + min c 1) % B64 = r at *
        generalize (x + y + min c 1) / B64 = q at *
        have hE2 := HE.out.stepped hc2 hg2 hcb
        have hcell := hE2.cell hkn hl
        have hfree := World.ownsRow.frozenAt hE2.1 k
        have HE3 := Lib.hid (hE2.stored (r := r) hkn hl)
        clear hE2 hc2 hg2 HE hbw
        go_wp2_with fail
        go_roundw
        case rel => exact ⟨k + 1, by omega, by go_num, _, _, HS.out, HE3.out⟩
        case measure => simp only [intOf]; omega
      · obtain rfl : k = n := by omega
        have hnv := Lib.hid (hE.end' hA.1 hA.2.1)
        have hsum := Lib.hid (hA.done (by decide) hx hy hn1 hn2)
        have hbw := Lib.hid hE.2.2.1
        have hdl := hA.1
        clear hA hE
        go_wp2_with fail
        refine (trim_calls _ ds wr hnv.out (by omega)).mono ?_
        rintro e w2 ⟨v, rfl, hno, hbl⟩
        go_wp2_with fail
        go_ret
        exact ⟨v, rfl, by rw [← hsum.out]; exact hno.mono hbw.out.size, hbw.out.trans (hbl.mono hbw.out.size)⟩

set_option maxHeartbeats 1600000 in
theorem eachsub_calls (v1 v2 : Value) (xs ys : List Nat) (cb : Nat) (w0 w : World) (h1 : Nv w0 v1 xs) (h2 : Nv w0 v2 ys) (l1 : xs.length ≤ 1099511627776) (l2 : ys.length ≤ 1099511627776)
    (hle : Dg.dv B64 ys ≤ Dg.dv B64 xs) (hb0 : Below w0.heap.size w0 w) (hcb : w0.heap.size ≤ cb) (hc : w.heap[cb]? = some (.cells #[.int .u64 0] 43 (0, 0))) :
    Calls Tryz.prog 115 #[v1, v2, .func (.func 123) #[] #[.pointer (some ⟨cb, 0, none⟩)]] w (RetN0 (Dg.db B64 (Dg.dv B64 xs - Dg.dv B64 ys)) w0) := by
  obtain ⟨i0, hi, hz0, hz1, hz2⟩ := info_parts info_u64
  have hx := h1.1
  have hy := h2.1
  have k1 := fun (i : Int) wr (hb : Below w0.heap.size w0 wr) => limb_calls v1 xs i wr (h1.below hb) (by omega)
  have k2 := fun (i : Int) wr (hb : Below w0.heap.size w0 wr) => limb_calls v2 ys i wr (h2.below hb) (by omega)
  obtain ⟨_, a1, c1, rfl, hcap, _⟩ := h1
  obtain ⟨_, a2, c2, rfl, _, _⟩ := h2
  have K1 := Lib.hid k1
  have K2 := Lib.hid k2
  have HC := Lib.hid hc
  have hcbl := lt_of_block hc
  have hsz := hb0.size
  clear k1 k2 hc
  obtain ⟨n, hn1, hn2, hn3, hn4⟩ : ∃ n : Nat, xs.length < n ∧ ys.length < n ∧ n ≤ 1099511627777 ∧ (n ≤ xs.length + 1 ∨ n ≤ ys.length + 1) := ⟨max xs.length ys.length + 1, by omega, by omega, by omega, by omega⟩
  rcases Nat.lt_or_ge xs.length ys.length with hlt | hge
  all_goals
    go_enter Tryz.func115, Tryz.ntmps115
    go_wp2_with (at_make; refine wpList_make_full _ rfl _ _ 23 rfl w0.heap.size 43 i0 (.int .u64 0) 1 und_Nat hi hz0 hz1 .i64 .i64 _ _ n rfl rfl ?_ ?_ ?_ ?_ ?_ ?_)
    · omega
    · omega
    · rw [hz2]; omega
    · unfold maxLen; omega
    · omega
    intro w1 hown hg
    have hE : EachAt w0 w1 cb w.heap.size n 0 [] 0 := by
      refine ⟨?_, ?_, ?_, ?_, ?_⟩
      · have e : (madeCells #[Value.int IntKind.u64 0] n).toList = us ([] ++ List.replicate (n - 0) 0) := by
          rw [List.nil_append, us_replicate, Nat.sub_zero]; exact toList_madeCells_one _ _
        rw [← e]; exact hown
      · rw [hg.block cb hcbl (by simp)]; exact HC.out
      · exact hb0.grown hg hsz (fun k hk => by simp at hk)
      · exact (World.ownsRow.lt hown w.heap.size (by simp [Value.ownBlock])).2
      · omega
    have HE := Lib.hid hE
    clear hown hg hE
    generalize w.heap.size = g at *
    clear hcbl hsz HC hb0 hn4 hi hz0 hz1 hz2 hcap
    go_wp2_with fail
    go_loopw [18] (fun s wr => ∃ k : Nat, k ≤ n ∧ s = .int .i64 k ∧ Hid (∃ ds c, Dg.SubAt B64 xs ys k ds c ∧ EachAt w0 wr cb g n k ds c)) (fun s _ => n - (intOf s).toNat)
    case atStart => exact ⟨0, Nat.zero_le _, rfl, [], 0, Dg.SubAt.start _ _ _, HE.out⟩
    case round =>
      obtain ⟨k, hk, rfl, hrel⟩ := hrel
      obtain ⟨ds, c, hA, hE⟩ := hrel.out
      clear hrel
      by_cases hkn : k < n
      · have hbw := hE.2.2.1
        have hS := hA.step (by decide) hx hy
        rw [← limbAt_nat xs k, ← limbAt_nat ys k] at hS
        have HS := Lib.hid hS
        have HE := Lib.hid hE
        have hl := hA.1
        clear hA hE hS
        go_wp2_with fail
        refine (K1.out k wr hbw).mono ?_
        rintro e w' ⟨rfl, rfl⟩
        generalize limbAt xs (k : Int) = x at *
        go_wp2_with fail
        refine (K2.out k wr hbw).mono ?_
        rintro e w' ⟨rfl, rfl⟩
        generalize limbAt ys (k : Int) = y at *
        go_wp2_with fail
        refine (substep_calls x y c cb wr HE.out.2.1).mono ?_
        rintro e w2 ⟨rfl, hc2, hg2⟩
        generalize (x + B64 - y - min c 1) % B64 = r at *
        generalize (if x < y + min c 1 then 1 else 0) = q at *
        have hE2 := HE.out.stepped hc2 hg2 hcb
        have hcell := hE2.cell hkn hl
        have hfree := World.ownsRow.frozenAt hE2.1 k
        have HE3 := Lib.hid (hE2.stored (r := r) hkn hl)
        clear hE2 hc2 hg2 HE hbw
        go_wp2_with fail
        go_roundw
        case rel => exact ⟨k + 1, by omega, by go_num, _, _, HS.out, HE3.out⟩
        case measure => simp only [intOf]; omega
      · obtain rfl : k = n := by omega
        have hnv := Lib.hid (hE.end' hA.1 hA.2.1)
        have hsum := Lib.hid (hA.done (by decide) (by omega) (by omega) hle)
        have hbw := Lib.hid hE.2.2.1
        have hdl := hA.1
        clear hA hE
        go_wp2_with fail
        refine (trim_calls _ ds wr hnv.out (by omega)).mono ?_
        rintro e w2 ⟨v, rfl, hno, hbl⟩
        go_wp2_with fail
        go_ret
        exact ⟨v, rfl, by rw [← hsum.out]; exact hno.mono hbw.out.size, hbw.out.trans (hbl.mono hbw.out.size)⟩

set_option maxHeartbeats 400000 in
theorem add_calls (v1 v2 : Value) (xs ys : List Nat) (w : World) (h1 : Nv w v1 xs) (h2 : Nv w v2 ys) (l1 : xs.length ≤ 1099511627776) (l2 : ys.length ≤ 1099511627776) :
    Calls Tryz.prog 84 #[v1, v2] w (RetN (Dg.db B64 (Dg.dv B64 xs + Dg.dv B64 ys)) w) := by
  have hc := Lib.hid (eachadd_calls v1 v2 xs ys w.heap.size w (w.alloc (.cells #[.int .u64 0] 43)) h1 h2 l1 l2 ((Below.refl _ _).alloc (Nat.le_refl _) _) (Nat.le_refl _) (heap_alloc_new w _))
  go_enter Tryz.func84, Tryz.ntmps84
  go_wp2_with fail
  refine (hc.out).mono ?_
  rintro e w' ⟨v, rfl, hno, hb⟩
  go_wp2_with fail
  go_ret
  exact ⟨v, rfl, hno, hb⟩

/-- What nat.Sub answers. -/
def RetSub (m n : Nat) (w : World) (e : Ending) (w' : World) : Prop :=
  (n ≤ m → ∃ v, e = .returned (.tuple #[v, .int .i64 0]) ∧ No w.heap.size w' v (Dg.db B64 (m - n)) ∧ Below w.heap.size w w') ∧
  (m < n → e = .returned (.tuple #[.slice none 0 0, .int .i64 8]) ∧ w = w')

set_option maxHeartbeats 400000 in
theorem sub_calls (v1 v2 : Value) (xs ys : List Nat) (w : World) (h1 : Nv w v1 xs) (h2 : Nv w v2 ys) (l1 : xs.length ≤ 1099511627776) (l2 : ys.length ≤ 1099511627776) :
    Calls Tryz.prog 100 #[v1, v2] w (RetSub (Dg.dv B64 xs) (Dg.dv B64 ys) w) := by
  have hcmp := Lib.hid (cmp_calls v1 v2 xs ys w h1 h2 (by omega) (by omega))
  rcases Nat.lt_or_ge (Dg.dv B64 xs) (Dg.dv B64 ys) with hlt | hge
  · have hz := Dg.cmpZ_lt hlt
    rw [hz] at hcmp
    have HL := Lib.hid hlt
    clear hz h1 h2 hlt
    go_enter Tryz.func100, Tryz.ntmps100
    go_wp2_with fail
    refine (hcmp.out).mono ?_
    rintro e w' ⟨rfl, rfl⟩
    go_wp2_with fail
    go_ret2
    exact ⟨fun h => absurd HL.out (by omega), fun _ => ⟨rfl, rfl⟩⟩
  · have hc := Lib.hid (eachsub_calls v1 v2 xs ys w.heap.size w (w.alloc (.cells #[.int .u64 0] 43)) h1 h2 l1 l2 hge ((Below.refl _ _).alloc (Nat.le_refl _) _) (Nat.le_refl _) (heap_alloc_new w _))
    have hz := Dg.cmpZ_nonneg.2 hge
    have HL := Lib.hid hge
    clear h1 h2 hge
    generalize Dg.cmpZ (Dg.dv B64 xs) (Dg.dv B64 ys) = z at *
    go_enter Tryz.func100, Tryz.ntmps100
    go_wp2_with fail
    refine (hcmp.out).mono ?_
    rintro e w' ⟨rfl, rfl⟩
    go_wp2_with fail
    refine (hc.out).mono ?_
    rintro e w' ⟨v, rfl, hno, hb⟩
    go_wp2_with fail
    go_ret2
    exact ⟨fun _ => ⟨v, rfl, hno, hb⟩, fun h => absurd HL.out (by omega)⟩

end Go.Proofs.YthlpfhenaakljaaGreatDoor

namespace Go.Proofs.YthlpfhenaakljaaGreatDoor
open Go.RowKit

/-- The row that nat.Mul fills: the digits ds, at block g. -/
def RowAt (w0 wr : World) (g n : Nat) (ds : List Nat) : Prop :=
  ds.length = n ∧ wr.ownsRow w0.heap.size 43 1 (.slice (some ⟨g, 0, none⟩) n n) n (us ds) ∧ Below w0.heap.size w0 wr

theorem RowAt.cell {w0 wr : World} {g n : Nat} {ds : List Nat} (h : RowAt w0 wr g n ds) {k : Nat} (hk : k < n) : wr.cell? ⟨g, k, none⟩ = some (.int .u64 (ds.getD k 0 : Nat)) := by
  rw [World.ownsRow.cellAt h.2.1 k (by simpa using hk), us_getD _ _ (by rw [h.1]; exact hk)]
theorem RowAt.free {w0 wr : World} {g n : Nat} {ds : List Nat} (h : RowAt w0 wr g n ds) (k : Nat) : wr.frozen? ⟨g, k, none⟩ = false := World.ownsRow.frozenAt h.2.1 k
theorem RowAt.le {w0 wr : World} {g n : Nat} {ds : List Nat} (h : RowAt w0 wr g n ds) : w0.heap.size ≤ g := (World.ownsRow.lt h.2.1 g (by simp [Value.ownBlock])).1
theorem RowAt.set {w0 wr : World} {g n : Nat} {ds : List Nat} (h : RowAt w0 wr g n ds) (k r : Nat) : RowAt w0 (wr.setCell ⟨g, k, none⟩ (.int .u64 r)) g n (ds.set k r) := by
  have hs := World.ownsRow.stored h.2.1 k (.int .u64 (r : Int))
  rw [← us_set] at hs
  exact ⟨by simp [h.1], hs.1, h.2.2.setCell h.le _⟩
theorem RowAt.made {w0 w w1 : World} {n : Nat} (hb : Below w0.heap.size w0 w) (hown : w1.ownsRow w0.heap.size 43 1 (.slice (some ⟨w.heap.size, 0, none⟩) n n) n (madeCells #[Value.int IntKind.u64 0] n).toList) (hg : w.grownBy w1 none) :
    RowAt w0 w1 w.heap.size n (List.replicate n 0) := by
  refine ⟨by simp, ?_, hb.grown hg hb.size (fun k hk => by simp at hk)⟩
  rw [us_replicate, ← toList_madeCells_one]; exact hown
theorem RowAt.nv {w0 wr : World} {g n : Nat} {ds : List Nat} (h : RowAt w0 wr g n ds) (hd : Ws ds) : Nv wr (.slice (some ⟨g, 0, none⟩) n n) ds := by
  have : No w0.heap.size wr (.slice (some ⟨g, 0, none⟩) n n) ds := ⟨hd, by rw [h.1]; exact h.2.1⟩
  exact this.nv

theorem Rd.cell {w : World} {a : Option Addr} {xs : List Nat} (h : Rd w a xs) (hne : xs ≠ []) : ∃ b off, a = some ⟨b, off, none⟩ ∧ b < w.heap.size ∧ ∀ j, j < xs.length → w.cell? ⟨b, off + j, none⟩ = some (.int .u64 (xs.getD j 0 : Nat)) := h.resolve_left hne

theorem wadd0_calls (x y : Nat) (w : World) :
    Calls Tryz.prog 61 #[.int .u64 x, .int .u64 y, .int .u64 0] w fun e w' => e = .returned (.tuple #[.int .u64 ((x + y) % B64 : Nat), .int .u64 ((x + y) / B64 : Nat)]) ∧ w = w' := wadd_calls x y 0 w

set_option maxHeartbeats 3200000 in
theorem mul_calls (v1 v2 : Value) (xs ys : List Nat) (w : World) (h1 : Nv w v1 xs) (h2 : Nv w v2 ys) (l1 : xs.length ≤ 1099511627776) (l2 : ys.length ≤ 1099511627776) :
    Calls Tryz.prog 33 #[v1, v2] w (RetN (Dg.db B64 (Dg.dv B64 xs * Dg.dv B64 ys)) w) := by
  obtain ⟨i0, hi, hz0, hz1, hz2⟩ := info_parts info_u64
  obtain ⟨hx, a1, cp1, rfl, hcap1, r1⟩ := h1
  obtain ⟨hy, a2, cp2, rfl, hcap2, r2⟩ := h2
  go_enter Tryz.func33, Tryz.ntmps33
  go_wp2_with (at_make; refine wpList_make_full _ rfl _ _ 23 rfl w.heap.size 43 i0 (.int .u64 0) 1 und_Nat hi hz0 hz1 .i64 .i64 _ _ (xs.length + ys.length) rfl rfl ?_ ?_ ?_ ?_ ?_ ?_)
  · omega
  · omega
  · rw [hz2]; omega
  · unfold maxLen; omega
  · omega
  intro w1 hown hg
  have hR := RowAt.made (Below.refl _ _) hown hg
  obtain ⟨n, hn⟩ : ∃ n, n = xs.length + ys.length := ⟨_, rfl⟩
  have hn1 : n ≤ xs.length + ys.length := by omega
  have hn2 : xs.length + ys.length ≤ n := by omega
  rw [← hn] at hR ⊢
  have HR := Lib.hid hR
  clear hown hg hR hi hz0 hz1 hz2
  have hm0 : Dg.MulAt B64 xs ys 0 (List.replicate n 0) := by rw [hn]; exact Dg.MulAt.start (by decide) xs ys
  have HM := Lib.hid hm0
  clear hn hm0
  generalize w.heap.size = g at *
  go_wp2_with fail
  go_loopw [22] (fun s wr => ∃ i : Nat, i ≤ xs.length ∧ s = .int .i64 i ∧ Hid (∃ ds, Dg.MulAt B64 xs ys i ds ∧ RowAt w wr g n ds)) (fun s _ => xs.length - (intOf s).toNat)
  case atStart => exact ⟨0, Nat.zero_le _, rfl, _, HM.out, HR.out⟩
  case round =>
    obtain ⟨i, hi, rfl, hrel⟩ := hrel
    obtain ⟨ds, hM, hR⟩ := hrel.out
    clear hrel HM HR
    by_cases hin : i < xs.length
    · obtain ⟨b1, o1, rfl, hb1, hc1⟩ := (r1.below hR.2.2).cell (fun h => by simp [h] at hin)
      have hcx := hc1 i hin
      have hxb := hx.getD i
      have HIn := Lib.hid (hM.inner (by decide))
      have HR := Lib.hid hR
      clear hc1 hb1 hM hR
      generalize hxe : xs.getD i 0 = x at *
      have HXE := Lib.hid hxe
      clear hxe
      obtain ⟨wo, rfl⟩ : ∃ wo : World, wo = wr := ⟨_, rfl⟩
      go_wp2_with fail
      go_loopw [8, 29] (fun o s wi => ∃ k ov : Nat, k ≤ ys.length ∧ s = .int .i64 k ∧ o = .int .u64 ov ∧ Hid (∃ ds', Dg.MulIn B64 xs ys i k ds' ov ∧ RowAt w wi g n ds')) (fun _ s _ => ys.length - (intOf s).toNat)
      case atStart => exact ⟨0, 0, Nat.zero_le _, rfl, rfl, _, HIn.out, HR.out⟩
      case round =>
        obtain ⟨k, ov, hk, rfl, rfl, hrel⟩ := hrel
        obtain ⟨ds', hI, hR'⟩ := hrel.out
        clear hrel HIn HR hcx
        by_cases hkn : k < ys.length
        · obtain ⟨b2, o2, rfl, hb2, hc2⟩ := (r2.below hR'.2.2).cell (fun h => by simp [h] at hkn)
          have hcy := hc2 k hkn
          have hcd := hR'.cell (k := i + k) (by omega)
          have hfd := hR'.free (i + k)
          have hyb := hy.getD k
          have hvb := Dg.Ds.getD (by decide) hI.2.1 (i + k)
          have hob := hI.2.2.2.1
          have HI := Lib.hid (fun l o' => hI.step (l := l) (o' := o') (by decide) hin hkn)
          have HR' := Lib.hid (fun r => hR'.set (i + k) r)
          clear hc2 hb2 hI hR'
          rw [HXE.out] at HI
          generalize ys.getD k 0 = y at *
          generalize ds'.getD (i + k) 0 = v at *
          obtain ⟨m1, m2, m3, m4⟩ := Dg.mul_step (by decide : 2 ≤ B64) hxb hyb hob hvb
          have HI2 := Lib.hid (HI.out _ _ m3 m2 m4)
          have hw1 : ((x * y / B64 : Nat) : Int) + ((x * y % B64 + ov) / B64 : Nat) ≤ 18446744073709551615 := by have e : B64 = 18446744073709551616 := rfl; omega
          have hw2 : ((x * y / B64 : Nat) : Int) + ((x * y % B64 + ov) / B64 : Nat) + (((x * y % B64 + ov) % B64 + v) / B64 : Nat) ≤ 18446744073709551615 := by have e : B64 = 18446744073709551616 := rfl; omega
          clear HI m1 m2 m3 m4
          go_wp2_with fail
          refine (wmul_calls x y _ hxb hyb).mono ?_
          rintro e w' ⟨rfl, rfl⟩
          clear hxb hyb
          generalize x * y / B64 = p at *
          generalize x * y % B64 = q at *
          go_wp2_with fail
          refine (wadd0_calls q ov _).mono ?_
          rintro e w' ⟨rfl, rfl⟩
          generalize (q + ov) / B64 = c1 at *
          generalize (q + ov) % B64 = lo1 at *
          go_wp2_with fail
          refine (wadd0_calls lo1 v _).mono ?_
          rintro e w' ⟨rfl, rfl⟩
          generalize (lo1 + v) / B64 = c2 at *
          generalize (lo1 + v) % B64 = lo2 at *
          go_wp2_with fail
          go_roundw
          case rel => exact ⟨k + 1, p + c1 + c2, by omega, by go_num, by push_cast; rfl, _, HI2.out, HR'.out _⟩
          case measure => simp only [intOf]; omega
        · obtain rfl : k = ys.length := by omega
          have hcd := hR'.cell (k := i + ys.length) (by omega)
          have hfd := hR'.free (i + ys.length)
          have HM2 := Lib.hid (hI.done (by decide) hin)
          have HR2 := Lib.hid (hR'.set (i + ys.length) ov)
          clear hI hR'
          go_wp2_with fail
          go_roundw
          case rel => exact ⟨i + 1, by omega, by go_num, _, HM2.out, HR2.out⟩
          case measure => simp only [intOf]; omega
    · obtain rfl : i = xs.length := by omega
      have hnv := Lib.hid (hR.nv hM.2.1)
      have hbw := Lib.hid hR.2.2
      have hdl : ds.length ≤ 2199023255552 := by have := hR.1; omega
      have hval := Lib.hid (show Dg.dv B64 ds = Dg.dv B64 xs * Dg.dv B64 ys by rw [hM.2.2.2, List.take_length])
      clear hM hR
      go_wp2_with fail
      refine (trim_calls _ ds _ hnv.out (by omega)).mono ?_
      rintro e w2 ⟨v, rfl, hno, hbl⟩
      go_wp2_with fail
      go_ret
      exact ⟨v, rfl, by rw [← hval.out]; exact hno.mono hbw.out.size, hbw.out.trans (hbl.mono hbw.out.size)⟩

end Go.Proofs.YthlpfhenaakljaaGreatDoor

namespace Go.Proofs.YthlpfhenaakljaaGreatDoor
open Go.RowKit

theorem B64_pow : B64 = 2 ^ 64 := by decide
theorem wrap_u64_nat (n : Nat) : IntKind.u64.wrap (n : Int) = ((n % 2 ^ 64 : Nat) : Int) := by
  simp [IntKind.wrap, IntKind.bits, IntKind.signed]

theorem limbAt_dv {xs : List Nat} (hx : Ws xs) (i : Nat) : limbAt xs (i : Int) = Dg.dv B64 xs / (2 ^ 64) ^ i % 2 ^ 64 := by
  rw [limbAt_nat, Dg.getD_eq (by decide) xs hx i, B64_pow]

theorem or_cast {x y r s : Nat} (hx : x < 2 ^ 64) : bits BinOp.or IntKind.u64 ((x : Int) / 2 ^ r) (IntKind.u64.wrap ((y : Int) * 2 ^ s)) = (((x / 2 ^ r) ||| (y * 2 ^ s % 2 ^ 64) : Nat) : Int) := by
  have e1 : (x : Int) / 2 ^ r = ((x / 2 ^ r : Nat) : Int) := by push_cast; rfl
  have e2 : (y : Int) * 2 ^ s = ((y * 2 ^ s : Nat) : Int) := by push_cast; rfl
  rw [e1, e2, wrap_u64_nat]
  exact u64_or_nat _ _ (Nat.lt_of_le_of_lt (Nat.div_le_self _ _) hx) (Nat.mod_lt _ (by decide))

theorem from_eq1 {xs : List Nat} (hx : Ws xs) {m : Nat} (hr : 0 < (m : Int) % 64) :
    bits BinOp.or IntKind.u64 ((limbAt xs ((m : Int) / 64) : Int) / 2 ^ (m % 64)) (IntKind.u64.wrap ((limbAt xs ((m : Int) / 64 + 1) : Int) * 2 ^ (64 - m % 64))) = (Dg.dv B64 xs / 2 ^ m % B64 : Nat) := by
  have e1 : limbAt xs ((m : Int) / 64) = Dg.dv B64 xs / (2 ^ 64) ^ (m / 64) % 2 ^ 64 := by
    rw [show ((m : Int) / 64) = ((m / 64 : Nat) : Int) by omega, limbAt_dv hx]
  have e2 : limbAt xs ((m : Int) / 64 + 1) = Dg.dv B64 xs / (2 ^ 64) ^ (m / 64 + 1) % 2 ^ 64 := by
    rw [show ((m : Int) / 64 + 1) = ((m / 64 + 1 : Nat) : Int) by omega, limbAt_dv hx]
  rw [or_cast (by rw [e1]; exact Nat.mod_lt _ (by decide)), B64_pow, ← Dg.shr_limb (by rw [e1, B64_pow]) (by rw [e2, B64_pow]) (by omega)]
theorem from_eq2 {xs : List Nat} (hx : Ws xs) {m : Nat} (hr : ¬ 0 < (m : Int) % 64) : (limbAt xs ((m : Int) / 64) : Int) / 2 ^ (m % 64) = (Dg.dv B64 xs / 2 ^ m % B64 : Nat) := by
  have e1 : limbAt xs ((m : Int) / 64) = Dg.dv B64 xs / (2 ^ 64) ^ (m / 64) % 2 ^ 64 := by
    rw [show ((m : Int) / 64) = ((m / 64 : Nat) : Int) by omega, limbAt_dv hx]
  have h0 : m % 64 = 0 := by omega
  rw [h0, Int.pow_zero, Int.ediv_one, e1, B64_pow, ← Dg.shr_limb0 rfl h0]
theorem from_eq3 {xs : List Nat} (hx : Ws xs) {m : Nat} (h0 : 0 < m) (hr : 0 < (m : Int) % 64) :
    bits BinOp.or IntKind.u64 0 (IntKind.u64.wrap ((limbAt xs (-((m : Int) / 64)) : Int) * 2 ^ (64 - (-((m : Int) % 64) + 64)).toNat)) = (Dg.dv B64 xs * 2 ^ m % B64 : Nat) := by
  have e := or_cast (x := 0) (y := limbAt xs (-((m : Int) / 64))) (r := 0) (s := (64 - (-((m : Int) % 64) + 64)).toNat) (by decide)
  simp only [Int.pow_zero, Int.ediv_one, Nat.pow_zero, Nat.div_one, Nat.zero_or] at e
  rw [show ((0 : Nat) : Int) = 0 from rfl] at e
  rw [e, B64_pow]
  congr 1
  by_cases hm : m < 64
  · rw [show -((m : Int) / 64) = ((0 : Nat) : Int) by omega, limbAt_dv hx, Nat.pow_zero, Nat.div_one, B64_pow, Dg.shl_limb hm]
    congr 3; omega
  · have e1 : limbAt xs (-((m : Int) / 64)) = 0 := by unfold limbAt; rw [if_neg (by omega)]
    rw [e1, Nat.zero_mul, Dg.shl_limb0 (by omega)]
theorem from_eq4 {xs : List Nat} {m : Nat} (h0 : 0 < m) (hr : ¬ 0 < (m : Int) % 64) : (limbAt xs (-((m : Int) / 64)) : Int) / 2 ^ (-((m : Int) % 64)).toNat = (Dg.dv B64 xs * 2 ^ m % B64 : Nat) := by
  have e1 : limbAt xs (-((m : Int) / 64)) = 0 := by unfold limbAt; rw [if_neg (by omega)]
  rw [e1, B64_pow, Dg.shl_limb0 (by omega)]
  simp

set_option maxHeartbeats 800000 in
theorem from_nonneg (v : Value) (xs : List Nat) (m : Nat) (w : World) (hv : Nv w v xs) (hl : xs.length ≤ 4398046511104) (hm : m ≤ 1125899906842624) :
    Calls Tryz.prog 117 #[v, .int .i64 m] w fun e w' => e = .returned (.int .u64 (Dg.dv B64 xs / 2 ^ m % B64 : Nat)) ∧ w = w' := by
  have K := Lib.hid (fun i => limb_calls v xs i w hv hl)
  have hx := hv.1
  by_cases hr : 0 < (m : Int) % 64
  · have E := Lib.hid (from_eq1 hx hr)
    go_enter Tryz.func117, Tryz.ntmps117
    go_wp2_with fail
    refine (K.out _).mono ?_
    rintro e w' ⟨rfl, rfl⟩
    go_wp2_with fail
    refine (K.out _).mono ?_
    rintro e w' ⟨rfl, rfl⟩
    go_wp2_with fail
    go_ret
    exact ⟨ret_int' E.out, rfl⟩
  · have E := Lib.hid (from_eq2 hx hr)
    go_enter Tryz.func117, Tryz.ntmps117
    go_wp2_with fail
    refine (K.out _).mono ?_
    rintro e w' ⟨rfl, rfl⟩
    go_wp2_with fail
    go_ret
    exact ⟨ret_int' E.out, rfl⟩

set_option maxHeartbeats 800000 in
theorem from_neg (v : Value) (xs : List Nat) (m : Nat) (w : World) (hv : Nv w v xs) (hl : xs.length ≤ 4398046511104) (hm : m ≤ 1125899906842624) (h0 : 0 < m) :
    Calls Tryz.prog 117 #[v, .int .i64 (-(m : Int))] w fun e w' => e = .returned (.int .u64 (Dg.dv B64 xs * 2 ^ m % B64 : Nat)) ∧ w = w' := by
  have K := Lib.hid (fun i => limb_calls v xs i w hv hl)
  have hx := hv.1
  by_cases hr : 0 < (m : Int) % 64
  · have E := Lib.hid (from_eq3 hx h0 hr)
    go_enter Tryz.func117, Tryz.ntmps117
    go_wp2_with fail
    refine (K.out _).mono ?_
    rintro e w' ⟨rfl, rfl⟩
    have e0 : limbAt xs (-((m : Int) / 64) - 1) = 0 := by unfold limbAt; rw [if_neg (by omega)]
    rw [e0]
    clear e0
    go_wp2_with fail
    refine (K.out _).mono ?_
    rintro e w' ⟨rfl, rfl⟩
    go_wp2_with fail
    go_ret
    exact ⟨ret_int' E.out, rfl⟩
  · have E := Lib.hid (from_eq4 (xs := xs) h0 hr)
    go_enter Tryz.func117, Tryz.ntmps117
    go_wp2_with fail
    refine (K.out _).mono ?_
    rintro e w' ⟨rfl, rfl⟩
    go_wp2_with fail
    go_ret
    exact ⟨ret_int' E.out, rfl⟩

/-- The limb of a shifted number that begins at a place. -/
def fromV (V : Nat) (p : Int) : Nat := if 0 ≤ p then V / 2 ^ p.toNat % B64 else V * 2 ^ (-p).toNat % B64

theorem from_calls (v : Value) (xs : List Nat) (p : Int) (w : World) (hv : Nv w v xs) (hl : xs.length ≤ 4398046511104) (hp : -1125899906842624 ≤ p ∧ p ≤ 1125899906842624) :
    Calls Tryz.prog 117 #[v, .int .i64 p] w fun e w' => e = .returned (.int .u64 (fromV (Dg.dv B64 xs) p : Nat)) ∧ w = w' := by
  by_cases h : 0 ≤ p
  · obtain ⟨m, rfl⟩ := Int.eq_ofNat_of_zero_le h
    rw [show fromV (Dg.dv B64 xs) m = Dg.dv B64 xs / 2 ^ m % B64 by simp [fromV]]
    exact from_nonneg v xs m w hv hl (by omega)
  · obtain ⟨m, hm⟩ : ∃ m : Nat, p = -(m : Int) := ⟨(-p).toNat, by omega⟩
    subst hm
    have : fromV (Dg.dv B64 xs) (-(m : Int)) = Dg.dv B64 xs * 2 ^ m % B64 := by
      unfold fromV; rw [if_neg h]; simp
    rw [this]
    exact from_neg v xs m w hv hl (by omega) (by omega)

end Go.Proofs.YthlpfhenaakljaaGreatDoor

namespace Go.Proofs.YthlpfhenaakljaaGreatDoor
open Go.RowKit

theorem set_next {l : List Nat} {n k r : Nat} (hl : l.length = k) (hk : k < n) : (l ++ List.replicate (n - k) 0).set k r = l ++ [r] ++ List.replicate (n - (k + 1)) 0 := by
  rw [show n - k = (n - (k + 1)) + 1 by omega, List.replicate_succ, ← hl, List.set_append_right _ _ (Nat.le_refl _)]
  simp

def digs (f : Nat → Nat) (k : Nat) : List Nat := (List.range k).map f
theorem digs_length (f : Nat → Nat) (k : Nat) : (digs f k).length = k := by simp [digs]
theorem digs_succ (f : Nat → Nat) (k : Nat) : digs f (k + 1) = digs f k ++ [f k] := by simp [digs, List.range_succ]
theorem digs_Ws {f : Nat → Nat} (hf : ∀ i, f i < B64) (k : Nat) : Ws (digs f k) := fun x hx => by
  obtain ⟨i, _, rfl⟩ := List.mem_map.1 hx; exact hf i
theorem fromV_lt (V : Nat) (p : Int) : fromV V p < B64 := by unfold fromV; split <;> exact Nat.mod_lt _ (by decide)

theorem dv_digs (W n : Nat) : Dg.dv B64 (digs (fun i => W / B64 ^ i % B64) n) = W % B64 ^ n := by
  induction n with
  | zero => simp [digs, Dg.dv, Nat.mod_one]
  | succ n ih =>
    rw [digs_succ, Dg.dv_append, ih, digs_length]
    simp only [Dg.dv, Nat.mul_zero, Nat.add_zero]
    rw [Nat.pow_succ, Nat.mod_mul]

theorem fromV_shl {V m : Nat} (i : Nat) : fromV V ((i : Int) * 64 + -(m : Int)) = V * 2 ^ m / B64 ^ i % B64 := by
  rw [B64_pow, ← Nat.pow_mul]
  unfold fromV
  split
  · obtain ⟨k, hk⟩ : ∃ k : Nat, 64 * i = k + m := ⟨64 * i - m, by omega⟩
    rw [show ((i : Int) * 64 + -(m : Int)).toNat = k by omega, hk, Nat.pow_add, Nat.mul_div_mul_right _ _ (Nat.two_pow_pos m), B64_pow]
  · obtain ⟨k, hk⟩ : ∃ k : Nat, m = k + 64 * i := ⟨m - 64 * i, by omega⟩
    rw [show (-((i : Int) * 64 + -(m : Int))).toNat = k by omega, hk, Nat.pow_add, ← Nat.mul_assoc, Nat.mul_div_cancel _ (Nat.two_pow_pos _), B64_pow]
theorem fromV_shr {V m : Nat} (i : Nat) : fromV V ((i : Int) * 64 + (m : Int)) = V / 2 ^ m / B64 ^ i % B64 := by
  rw [B64_pow, ← Nat.pow_mul]
  unfold fromV
  rw [if_pos (by omega), show ((i : Int) * 64 + (m : Int)).toNat = m + 64 * i by omega, Nat.pow_add, Nat.div_div_eq_div_mul, B64_pow]

set_option maxHeartbeats 1600000 in
theorem shifted_calls (v : Value) (xs : List Nat) (n : Nat) (N p : Int) (w : World) (hN : N = (n : Int)) (hv : Nv w v xs) (hl : xs.length ≤ 1099511627776) (hn : n ≤ 2199023255552) (hp : -1000000 ≤ p ∧ p ≤ 1000000) :
    Calls Tryz.prog 86 #[v, .int .i64 N, .int .i64 p] w (RetN (Dg.db B64 (Dg.dv B64 (digs (fun (i : Nat) => fromV (Dg.dv B64 xs) ((i : Int) * 64 + p)) n))) w) := by
  subst hN
  obtain ⟨i0, hi, hz0, hz1, hz2⟩ := info_parts info_u64
  have K := Lib.hid (fun (q : Int) wr (hb : Nv wr v xs) (hq : -1125899906842624 ≤ q ∧ q ≤ 1125899906842624) => from_calls v xs q wr hb (by omega) hq)
  have hf : ∀ i : Nat, fromV (Dg.dv B64 xs) ((i : Int) * 64 + p) < B64 := fun i => fromV_lt _ _
  obtain ⟨f, hfe⟩ : ∃ f : Nat → Nat, f = fun (i : Nat) => fromV (Dg.dv B64 xs) ((i : Int) * 64 + p) := ⟨_, rfl⟩
  have hfi : ∀ i : Nat, fromV (Dg.dv B64 xs) ((i : Int) * 64 + p) = f i := fun i => by rw [hfe]
  rw [← hfe]
  have HF := Lib.hid hfi
  have HW := Lib.hid (digs_Ws (f := f) (fun i => by rw [← hfi]; exact hf i))
  clear hfe hfi hf
  go_enter Tryz.func86, Tryz.ntmps86
  go_wp2_with (at_make; refine wpList_make_full _ rfl _ _ 23 rfl w.heap.size 43 i0 (.int .u64 0) 1 und_Nat hi hz0 hz1 .i64 .i64 _ _ n rfl rfl ?_ ?_ ?_ ?_ ?_ ?_)
  · omega
  · omega
  · rw [hz2]; omega
  · unfold maxLen; omega
  · omega
  intro w1 hown hg
  have HR := Lib.hid (RowAt.made (Below.refl _ _) hown hg)
  clear hown hg hi hz0 hz1 hz2
  generalize w.heap.size = g at *
  go_wp2_with fail
  go_loopw [13] (fun s wr => ∃ k : Nat, k ≤ n ∧ s = .int .i64 k ∧ Hid (RowAt w wr g n (digs f k ++ List.replicate (n - k) 0))) (fun s _ => n - (intOf s).toNat)
  case atStart => exact ⟨0, Nat.zero_le _, rfl, HR.out⟩
  case round =>
    obtain ⟨k, hk, rfl, hrel⟩ := hrel
    have hR := hrel.out
    clear hrel HR
    by_cases hkn : k < n
    · have hbw := hv.below hR.2.2
      have hcell := hR.cell hkn
      have hfree := hR.free k
      have HS := Lib.hid (fun r => hR.set k r)
      have hsn := Lib.hid (set_next (r := f k) (digs_length f k) hkn)
      clear hR
      generalize (digs f k ++ List.replicate (n - k) 0).getD k 0 = old at *
      go_wp2_with fail
      refine (K.out ((k : Int) * 64 + p) _ hbw (by omega)).mono ?_
      rintro e w' ⟨rfl, rfl⟩
      rw [HF.out]
      go_wp2_with fail
      go_roundw
      case rel => exact ⟨k + 1, by omega, by go_num, by rw [digs_succ, ← hsn.out]; exact HS.out (f k)⟩
      case measure => simp only [intOf]; omega
    · obtain rfl : k = n := by omega
      rw [Nat.sub_self, List.replicate_zero, List.append_nil] at hR
      have hnv := Lib.hid (hR.nv (HW.out k))
      have hbw := Lib.hid hR.2.2
      have hdl := digs_length f k
      clear hR
      go_wp2_with fail
      refine (trim_calls _ (digs f k) _ hnv.out (by omega)).mono ?_
      rintro e w2 ⟨v, rfl, hno, hbl⟩
      go_wp2_with fail
      go_ret
      exact ⟨v, rfl, hno.mono hbw.out.size, hbw.out.trans (hbl.mono hbw.out.size)⟩

set_option maxHeartbeats 400000 in
theorem may_calls (n : Int) (w : World) : Calls Tryz.prog 85 #[.int .i64 n] w fun e w' => e = .returned (.bool (decide (0 ≤ n ∧ n ≤ 65536))) ∧ w = w' := by
  by_cases h1 : 0 ≤ n
  · by_cases h2 : n ≤ 65536
    · rw [decide_eq_true ⟨h1, h2⟩]
      go_enter Tryz.func85, Tryz.ntmps85
      go_wp2
      go_ret
      exact ⟨rfl, rfl⟩
    · rw [decide_eq_false (by omega)]
      go_enter Tryz.func85, Tryz.ntmps85
      go_wp2
      go_ret
      exact ⟨rfl, rfl⟩
  · rw [decide_eq_false (by omega)]
    go_enter Tryz.func85, Tryz.ntmps85
    go_wp2
    go_ret
    exact ⟨rfl, rfl⟩

/-- What nat.Shl and nat.Shr answer. -/
def RetSh (ok : Bool) (R : List Nat) (w : World) (e : Ending) (w' : World) : Prop :=
  (ok = true → ∃ v, e = .returned (.tuple #[v, .int .i64 0]) ∧ No w.heap.size w' v R ∧ Below w.heap.size w w') ∧
  (ok = false → e = .returned (.tuple #[.slice none 0 0, .int .i64 1]) ∧ w = w')

set_option maxHeartbeats 400000 in
theorem shl_calls (v : Value) (xs : List Nat) (n : Int) (w : World) (hv : Nv w v xs) (hl : xs.length ≤ 1099511627776) :
    Calls Tryz.prog 55 #[v, .int .i64 n] w (RetSh (decide (0 ≤ n ∧ n ≤ 65536)) (Dg.db B64 (Dg.dv B64 xs * 2 ^ n.toNat)) w) := by
  have hm := may_calls n w
  by_cases h : 0 ≤ n ∧ n ≤ 65536
  · rw [decide_eq_true h] at hm ⊢
    obtain ⟨m, rfl⟩ := Int.eq_ofNat_of_zero_le h.1
    have hm2 : m ≤ 65536 := by omega
    have hs := fun N hN => shifted_calls v xs (xs.length + m / 64 + 1) N (-(m : Int)) w hN hv hl (by omega) (by omega)
    have e : Dg.dv B64 (digs (fun (i : Nat) => fromV (Dg.dv B64 xs) ((i : Int) * 64 + -(m : Int))) (xs.length + m / 64 + 1)) = Dg.dv B64 xs * 2 ^ m := by
      rw [show (fun (i : Nat) => fromV (Dg.dv B64 xs) ((i : Int) * 64 + -(m : Int))) = fun (i : Nat) => Dg.dv B64 xs * 2 ^ m / B64 ^ i % B64 from funext fun i => fromV_shl i, dv_digs]
      apply Nat.mod_eq_of_lt
      have h1 := Dg.dv_lt xs hv.1
      have h2 : 2 ^ m < B64 ^ (m / 64 + 1) := by
        rw [B64_pow, ← Nat.pow_mul]; exact Nat.pow_lt_pow_right (by omega) (by omega)
      rw [Nat.add_assoc, Nat.pow_add]
      exact Nat.mul_lt_mul'' h1 h2
    rw [e] at hs
    have HM := Lib.hid hm
    have HS := Lib.hid hs
    obtain ⟨_, a, cap, rfl, _, _⟩ := hv
    clear hm hs e h
    go_enter Tryz.func55, Tryz.ntmps55
    go_wp2_with fail
    refine (HM.out).mono ?_
    rintro e w' ⟨rfl, rfl⟩
    go_wp2_with fail
    refine (HS.out _ (by push_cast; rfl)).mono ?_
    rintro e w' ⟨v, rfl, hno, hb⟩
    go_wp2_with fail
    go_ret2
    exact ⟨fun _ => ⟨v, rfl, hno, hb⟩, (fun h => by cases h)⟩
  · rw [decide_eq_false h] at hm ⊢
    have HM := Lib.hid hm
    clear hm h
    go_enter Tryz.func55, Tryz.ntmps55
    go_wp2_with fail
    refine (HM.out).mono ?_
    rintro e w' ⟨rfl, rfl⟩
    go_wp2_with fail
    go_ret2
    exact ⟨(fun h => by cases h), fun _ => ⟨rfl, rfl⟩⟩

set_option maxHeartbeats 400000 in
theorem shr_calls (v : Value) (xs : List Nat) (n : Int) (w : World) (hv : Nv w v xs) (hl : xs.length ≤ 1099511627776) :
    Calls Tryz.prog 82 #[v, .int .i64 n] w (RetSh (decide (0 ≤ n ∧ n ≤ 65536)) (Dg.db B64 (Dg.dv B64 xs / 2 ^ n.toNat)) w) := by
  have hm := may_calls n w
  by_cases h : 0 ≤ n ∧ n ≤ 65536
  · rw [decide_eq_true h] at hm ⊢
    obtain ⟨m, rfl⟩ := Int.eq_ofNat_of_zero_le h.1
    have hm2 : m ≤ 65536 := by omega
    have hs := fun N hN => shifted_calls v xs xs.length N (m : Int) w hN hv hl (by omega) (by omega)
    have e : Dg.dv B64 (digs (fun (i : Nat) => fromV (Dg.dv B64 xs) ((i : Int) * 64 + (m : Int))) xs.length) = Dg.dv B64 xs / 2 ^ m := by
      rw [show (fun (i : Nat) => fromV (Dg.dv B64 xs) ((i : Int) * 64 + (m : Int))) = fun (i : Nat) => Dg.dv B64 xs / 2 ^ m / B64 ^ i % B64 from funext fun i => fromV_shr i, dv_digs]
      apply Nat.mod_eq_of_lt
      exact Nat.lt_of_le_of_lt (Nat.div_le_self _ _) (Dg.dv_lt xs hv.1)
    rw [e] at hs
    have HM := Lib.hid hm
    have HS := Lib.hid hs
    obtain ⟨_, a, cap, rfl, _, _⟩ := hv
    clear hm hs e h
    go_enter Tryz.func82, Tryz.ntmps82
    go_wp2_with fail
    refine (HM.out).mono ?_
    rintro e w' ⟨rfl, rfl⟩
    go_wp2_with fail
    refine (HS.out _ rfl).mono ?_
    rintro e w' ⟨v, rfl, hno, hb⟩
    go_wp2_with fail
    go_ret2
    exact ⟨fun _ => ⟨v, rfl, hno, hb⟩, (fun h => by cases h)⟩
  · rw [decide_eq_false h] at hm ⊢
    have HM := Lib.hid hm
    clear hm h
    go_enter Tryz.func82, Tryz.ntmps82
    go_wp2_with fail
    refine (HM.out).mono ?_
    rintro e w' ⟨rfl, rfl⟩
    go_wp2_with fail
    go_ret2
    exact ⟨(fun h => by cases h), fun _ => ⟨rfl, rfl⟩⟩

set_option maxHeartbeats 400000 in
theorem of_calls (n : Nat) (w : World) (hn : n < B64) : Calls Tryz.prog 77 #[.int .u64 n] w (RetN (Dg.db B64 n) w) := by
  have hown : (w.alloc (.cells #[.int .u64 n] 43)).ownsRow w.heap.size 43 1 (.slice (some ⟨w.heap.size, 0, none⟩) 1 1) 1 (us [n]) :=
    World.ownsRow_lit w #[.int .u64 n] 1 (Nat.le_refl _) (by decide) rfl
  have hno : No w.heap.size (w.alloc (.cells #[.int .u64 n] 43)) (.slice (some ⟨w.heap.size, 0, none⟩) 1 1) [n] := ⟨fun x hx => by simp at hx; omega, hown⟩
  have hc := Lib.hid (trim_calls _ [n] _ hno.nv (by simp))
  clear hown hno hn
  go_enter Tryz.func77, Tryz.ntmps77
  go_wp2_with fail
  refine (hc.out).mono ?_
  rintro e w' ⟨v, rfl, hno, hb⟩
  go_wp2_with fail
  go_ret
  exact ⟨v, rfl, by have := hno.mono (show w.heap.size ≤ _ from by simp); simpa [Dg.dv] using this, ((Below.refl _ _).alloc (Nat.le_refl _) _).trans (hb.mono (by simp))⟩

end Go.Proofs.YthlpfhenaakljaaGreatDoor

namespace Go.Proofs.YthlpfhenaakljaaGreatDoor
open Go.RowKit

theorem wrap_u64_int (n : Int) : IntKind.u64.wrap n = n % 18446744073709551616 := by simp [IntKind.wrap, IntKind.bits, IntKind.signed]
theorem wrap_u64_of {n : Int} {m : Nat} (h : n % 18446744073709551616 = (m : Int)) : IntKind.u64.wrap n = (m : Int) := by rw [wrap_u64_int, h]

/-- The numbers of a division of two words by one, shifted so that the divisor's highest bit is 1. -/
structure D64 (hi lo y s Y y1 y0 H u L u1 u0 : Nat) : Prop where
  s63 : s ≤ 63
  hY : Y = y * 2 ^ s
  hyy : Y = y1 * 4294967296 + y0
  y0lt : y0 < 4294967296
  y1ge : 4294967296 ≤ 2 * y1
  Ylt : Y < 18446744073709551616
  ult : u < Y
  u1lt : u1 < 4294967296
  u0lt : u0 < 4294967296
  tot : (hi * B64 + lo) * 2 ^ s = (u * 4294967296 + u1) * 4294967296 + u0
  e1 : IntKind.u64.wrap ((y : Int) * 2 ^ s) = (Y : Int)
  e2 : (Y : Int) / 4294967296 = (y1 : Int)
  e3 : bits BinOp.and IntKind.u64 (Y : Int) 4294967295 = (y0 : Int)
  e4 : IntKind.u64.wrap ((hi : Int) * 2 ^ s) = (H : Int)
  e5 : bits BinOp.or IntKind.u64 (H : Int) ((lo : Int) / 2 ^ (64 - s)) = (u : Int)
  e6 : IntKind.u64.wrap ((lo : Int) * 2 ^ s) = (L : Int)
  e7 : (L : Int) / 4294967296 = (u1 : Int)
  e8 : bits BinOp.and IntKind.u64 (L : Int) 4294967295 = (u0 : Int)

theorem and_mask (n : Nat) (h : n < 18446744073709551616) : bits BinOp.and IntKind.u64 (n : Int) 4294967295 = ((n % 4294967296 : Nat) : Int) := by
  have := u64_and_nat n 4294967295 h (by decide)
  rw [show ((4294967295 : Nat) : Int) = 4294967295 from rfl] at this
  rw [this, show n &&& 4294967295 = n % 2 ^ 32 from Nat.and_two_pow_sub_one_eq_mod n 32]

theorem D64.of {hi lo y : Nat} (hy : 0 < y) (hhi : hi < y) (hlo : lo < B64) (hyb : y < B64) :
    ∃ s Y y1 y0 H u L u1 u0, s = 64 - Dg.bl y ∧ D64 hi lo y s Y y1 y0 H u L u1 u0 := by
  have hb64 : Dg.bl y ≤ 64 := Dg.bl_le (by rw [← B64_pow]; exact hyb)
  have hb0 : 0 < Dg.bl y := Dg.bl_pos (by omega)
  obtain ⟨s, hs⟩ : ∃ s, s = 64 - Dg.bl y := ⟨_, rfl⟩
  have hY64 : y * 2 ^ s < 2 ^ 64 := by
    have h1 := Dg.lt_two_bl y
    have h2 : y * 2 ^ s < 2 ^ Dg.bl y * 2 ^ s := Nat.mul_lt_mul_of_pos_right h1 (Nat.two_pow_pos s)
    rw [← Nat.pow_add, show Dg.bl y + s = 64 by omega] at h2
    exact h2
  have hY63 : 2 ^ 63 ≤ y * 2 ^ s := by
    have h1 := Dg.two_bl_le (n := y) (by omega)
    have h2 : 2 ^ (Dg.bl y - 1) * 2 ^ s ≤ y * 2 ^ s := Nat.mul_le_mul_right _ h1
    rw [← Nat.pow_add, show Dg.bl y - 1 + s = 63 by omega] at h2
    exact h2
  have hlt : hi * 2 ^ s + 2 ^ s ≤ y * 2 ^ s := by
    have : (hi + 1) * 2 ^ s ≤ y * 2 ^ s := Nat.mul_le_mul_right _ hhi
    rwa [Nat.add_mul, Nat.one_mul] at this
  have hlo' : lo < 2 ^ 64 := by rw [← B64_pow]; exact hlo
  have hp : 0 < 2 ^ s := Nat.two_pow_pos s
  obtain ⟨p1, p2⟩ := Dg.shl_pair (hi := hi) (lo := lo) (s := s) (by omega) hlo' (by omega)
  have hlow : lo / 2 ^ (64 - s) < 2 ^ s := by
    rw [Nat.div_lt_iff_lt_mul (Nat.two_pow_pos _), ← Nat.pow_add, show s + (64 - s) = 64 by omega]; exact hlo'
  have hLlt : lo * 2 ^ s % 2 ^ 64 < 2 ^ 64 := Nat.mod_lt _ (by decide)
  have n64 : (2 : Nat) ^ 64 = 18446744073709551616 := by decide
  have n63 : (2 : Nat) ^ 63 = 9223372036854775808 := by decide
  have hhi64 : hi * 2 ^ s < 2 ^ 64 := by omega
  refine ⟨s, y * 2 ^ s, y * 2 ^ s / 4294967296, y * 2 ^ s % 4294967296, hi * 2 ^ s, hi * 2 ^ s + lo / 2 ^ (64 - s), lo * 2 ^ s % 2 ^ 64, lo * 2 ^ s % 2 ^ 64 / 4294967296, lo * 2 ^ s % 2 ^ 64 % 4294967296, hs, ?_⟩
  have ey : (y : Int) * 2 ^ s = ((y * 2 ^ s : Nat) : Int) := by push_cast; rfl
  have eh : (hi : Int) * 2 ^ s = ((hi * 2 ^ s : Nat) : Int) := by push_cast; rfl
  have el : (lo : Int) * 2 ^ s = ((lo * 2 ^ s : Nat) : Int) := by push_cast; rfl
  have ed : (lo : Int) / 2 ^ (64 - s) = ((lo / 2 ^ (64 - s) : Nat) : Int) := by push_cast; rfl
  rw [n64] at *
  rw [n63] at *
  exact {
    s63 := by omega
    hY := rfl
    hyy := by omega
    y0lt := Nat.mod_lt _ (by decide)
    y1ge := by omega
    Ylt := hY64
    ult := by omega
    u1lt := by omega
    u0lt := Nat.mod_lt _ (by decide)
    tot := by
      rw [show B64 = 18446744073709551616 from rfl, p2]; omega
    e1 := by rw [ey]; exact wrap_u64_of (by omega)
    e2 := by omega
    e3 := and_mask _ hY64
    e4 := by rw [eh]; exact wrap_u64_of (by omega)
    e5 := by rw [ed, u64_or_nat _ _ hhi64 (by omega), p1]
    e6 := by rw [el]; exact wrap_u64_of (by omega)
    e7 := by omega
    e8 := and_mask _ hLlt }

theorem bl_half {n : Nat} (h : n ≠ 0) : Dg.bl n = 1 + Dg.bl (n / 2) := by
  by_cases h1 : n / 2 = 0
  · have : n = 1 := by omega
    subst this; rfl
  · have := Dg.bl_shift (n := n) (s := 1) (by simpa using h1)
    simpa using this
theorem bitLen_eq (n : Nat) (h : n < 2 ^ 64) : Lib.bitLen n = Dg.bl n := by
  induction n using Nat.strongRecOn with
  | _ n ih =>
    by_cases h0 : n = 0
    · subst h0; rfl
    · rw [Lib.bitLen_half n h0 h, bl_half h0, ih (n / 2) (by omega) (by omega)]

/-- What is known ahead of an estimate. -/
structure Ahead (Y y1 y0 u u1 q p r : Nat) : Prop where
  est : Dg.Est 4294967296 y1 y0 u u1 q r
  ple : p ≤ u
  rlt : r < 4294967296
  r1 : IntKind.u64.wrap ((u : Int) / (y1 : Int)) = (q : Int)
  r2 : IntKind.u64.wrap ((q : Int) * (y1 : Int)) = (p : Int)
  r3 : (u : Int) - (p : Int) = (r : Int)

theorem Ahead.of {Y y1 y0 u u1 : Nat} (hyy : Y = y1 * 4294967296 + y0) (hy0 : y0 < 4294967296) (hy1 : 4294967296 ≤ 2 * y1) (hY : Y < 18446744073709551616) (hu : u < Y) (hu1 : u1 < 4294967296) :
    ∃ q p r, Ahead Y y1 y0 u u1 q p r := by
  have hd := Nat.div_add_mod u y1
  rw [Nat.mul_comm] at hd
  have hq : u / y1 ≤ u := Nat.div_le_self _ _
  have hm := Nat.mod_lt u (show 0 < y1 by omega)
  refine ⟨u / y1, u / y1 * y1, u - u / y1 * y1, ?_⟩
  exact {
    est := Dg.Est.start hy1 (by decide) hy0 hu1 (by omega)
    ple := by omega
    rlt := by omega
    r1 := by
      have e : (u : Int) / (y1 : Int) = ((u / y1 : Nat) : Int) := by push_cast; rfl
      have hlt : u / y1 < 18446744073709551616 := Nat.lt_of_le_of_lt hq (by omega)
      rw [e]
      generalize u / y1 = q at *
      exact wrap_u64_of (by omega)
    r2 := by
      have e : ((u / y1 : Nat) : Int) * (y1 : Int) = ((u / y1 * y1 : Nat) : Int) := by push_cast; rfl
      rw [e]; exact wrap_u64_of (by omega)
    r3 := by omega }

/-- What is known behind an estimate: what is left. -/
structure Behind (Y u u1 q a1 a2 a3 r : Nat) : Prop where
  r1 : IntKind.u64.wrap ((u : Int) * 4294967296) = (a1 : Int)
  r2 : IntKind.u64.wrap ((a1 : Int) + (u1 : Int)) = (a2 : Int)
  r3 : IntKind.u64.wrap ((q : Int) * (Y : Int)) = (a3 : Int)
  r4 : IntKind.u64.wrap ((a2 : Int) - (a3 : Int)) = (r : Int)

theorem Behind.of {Y u u1 q : Nat} (hY : Y < 18446744073709551616) (h0 : 0 < Y) (hq : q = (u * 4294967296 + u1) / Y) : ∃ a1 a2 a3, Behind Y u u1 q a1 a2 a3 ((u * 4294967296 + u1) % Y) := by
  have hd := Nat.div_add_mod (u * 4294967296 + u1) Y
  have hm := Nat.mod_lt (u * 4294967296 + u1) h0
  rw [← hq, Nat.mul_comm] at hd
  generalize (u * 4294967296 + u1) % Y = r at *
  refine ⟨u * 4294967296 % 18446744073709551616, (u * 4294967296 + u1) % 18446744073709551616, q * Y % 18446744073709551616, ?_⟩
  have e : (q : Int) * (Y : Int) = ((q * Y : Nat) : Int) := by push_cast; rfl
  exact {
    r1 := wrap_u64_of (by omega)
    r2 := wrap_u64_of (by omega)
    r3 := by rw [e]; exact wrap_u64_of (by omega)
    r4 := wrap_u64_of (by omega) }

end Go.Proofs.YthlpfhenaakljaaGreatDoor

namespace Go.Proofs.YthlpfhenaakljaaGreatDoor
open Go.RowKit

/-- What the corrections' loop keeps, in its two slots. -/
def EstRel (y1 y0 u u1 : Nat) (a b : Value) : Prop := ∃ q r : Nat, a = .int .u64 q ∧ b = .int .u64 r ∧ (r : Int) ≤ 4294967295 ∧ Dg.Est 4294967296 y1 y0 u u1 q r

/-- All that is known of the division ahead of the walk's loops. -/
structure Div64All (hi lo y s Y y1 y0 H u L u1 u0 q p r Q1 a1 a2 a3 R1 q' p' r' Q0 b1 b2 b3 R0 f1 Qt Rm : Nat) : Prop where
  D : D64 hi lo y s Y y1 y0 H u L u1 u0
  A : Ahead Y y1 y0 u u1 q p r
  hQ1 : Q1 = (u * 4294967296 + u1) / (y1 * 4294967296 + y0)
  B : Behind Y u u1 Q1 a1 a2 a3 R1
  ult : u < y1 * 4294967296 + y0
  ult2 : R1 < y1 * 4294967296 + y0
  R1lt : R1 < 18446744073709551616
  A' : Ahead Y y1 y0 R1 u0 q' p' r'
  hQ0 : Q0 = (R1 * 4294967296 + u0) / (y1 * 4294967296 + y0)
  B' : Behind Y R1 u0 Q0 b1 b2 b3 R0
  F1 : IntKind.u64.wrap ((Q1 : Int) * 4294967296) = (f1 : Int)
  F2 : IntKind.u64.wrap ((f1 : Int) + (Q0 : Int)) = (Qt : Int)
  F3 : (R0 : Int) / 2 ^ s = (Rm : Int)
  E1 : Qt = (hi * B64 + lo) / y
  E2 : Rm = (hi * B64 + lo) % y

theorem Div64All.of {hi lo y : Nat} (hy : 0 < y) (hhi : hi < y) (hlo : lo < B64) (hyb : y < B64) :
    ∃ s Y y1 y0 H u L u1 u0 q p r Q1 a1 a2 a3 R1 q' p' r' Q0 b1 b2 b3 R0 f1 Qt Rm, s = 64 - Dg.bl y ∧ Div64All hi lo y s Y y1 y0 H u L u1 u0 q p r Q1 a1 a2 a3 R1 q' p' r' Q0 b1 b2 b3 R0 f1 Qt Rm := by
  obtain ⟨s, Y, y1, y0, H, u, L, u1, u0, hs, D⟩ := D64.of hy hhi hlo hyb
  obtain ⟨q, p, r, A⟩ := Ahead.of D.hyy D.y0lt D.y1ge D.Ylt D.ult D.u1lt
  have hY0 : 0 < Y := by have := D.hyy; have := D.y1ge; omega
  obtain ⟨Q1, hQ1⟩ : ∃ Q1, Q1 = (u * 4294967296 + u1) / Y := ⟨_, rfl⟩
  obtain ⟨a1, a2, a3, B⟩ := Behind.of D.Ylt hY0 hQ1
  obtain ⟨R1, hR1⟩ : ∃ R1, R1 = (u * 4294967296 + u1) % Y := ⟨_, rfl⟩
  rw [← hR1] at B
  have hR1Y : R1 < Y := by rw [hR1]; exact Nat.mod_lt _ hY0
  obtain ⟨q', p', r', A'⟩ := Ahead.of D.hyy D.y0lt D.y1ge D.Ylt hR1Y D.u0lt
  obtain ⟨Q0, hQ0⟩ : ∃ Q0, Q0 = (R1 * 4294967296 + u0) / Y := ⟨_, rfl⟩
  obtain ⟨b1, b2, b3, B'⟩ := Behind.of D.Ylt hY0 hQ0
  obtain ⟨R0, hR0⟩ : ∃ R0, R0 = (R1 * 4294967296 + u0) % Y := ⟨_, rfl⟩
  rw [← hR0] at B'
  obtain ⟨t1, t2⟩ := Dg.div_two (b := 4294967296) hY0 D.tot hQ1 hR1 hQ0 D.u0lt (by decide)
  have hp := Nat.two_pow_pos s
  obtain ⟨t3, t4⟩ := Dg.div_shift (N := hi * B64 + lo) (s := s) hy
  rw [← D.hY] at t3 t4
  have hQ1lt : Q1 < 4294967296 := by
    rw [hQ1, D.hyy]; exact Dg.Est.true_lt D.u1lt (by rw [← D.hyy]; exact D.ult)
  have hQ0lt : Q0 < 4294967296 := by
    rw [hQ0, D.hyy]; exact Dg.Est.true_lt D.u0lt (by rw [← D.hyy]; exact hR1Y)
  have hR0Y : R0 < Y := by rw [hR0]; exact Nat.mod_lt _ hY0
  refine ⟨s, Y, y1, y0, H, u, L, u1, u0, q, p, r, Q1, a1, a2, a3, R1, q', p', r', Q0, b1, b2, b3, R0, Q1 * 4294967296, Q1 * 4294967296 + Q0, R0 / 2 ^ s, hs, ?_⟩
  have hYl := D.Ylt
  exact {
    D := D, A := A, hQ1 := by rw [← D.hyy]; exact hQ1, B := B, ult := by rw [← D.hyy]; exact D.ult, ult2 := by rw [← D.hyy]; exact hR1Y
    R1lt := by omega
    A' := A', hQ0 := by rw [← D.hyy]; exact hQ0, B' := B'
    F1 := wrap_u64_of (by omega)
    F2 := wrap_u64_of (by omega)
    F3 := by push_cast; rfl
    E1 := by rw [t1, t3]
    E2 := by rw [hR0, t2, t4] }

theorem pre_more {q r u1 y0 : Nat} (hm : 4294967296 ≤ q ∨ 4294967296 * r + u1 < q * y0) (y0lt : y0 < 4294967296) :
    (4294967296 : Int) ≤ q ∨ ((q : Int) ≤ 4294967295 ∧ ∃ qy : Nat, IntKind.u64.wrap ((q : Int) * (y0 : Int)) = (qy : Int) ∧ (4294967296 : Int) * r + u1 < qy) := by
  rcases Nat.lt_or_ge q 4294967296 with h | h
  · right
    refine ⟨by omega, q * y0, ?_, by have := hm.resolve_left (by omega); omega⟩
    have e : (q : Int) * (y0 : Int) = ((q * y0 : Nat) : Int) := by push_cast; rfl
    have hlt : q * y0 < 4294967296 * 4294967296 := Nat.mul_lt_mul'' h y0lt
    rw [e]; generalize q * y0 = t at *
    exact wrap_u64_of (by omega)
  · left; omega
theorem pre_fits {q r u1 y0 : Nat} (hq : q < 4294967296) (hm : q * y0 ≤ 4294967296 * r + u1) (y0lt : y0 < 4294967296) :
    ∃ qy : Nat, IntKind.u64.wrap ((q : Int) * (y0 : Int)) = (qy : Int) ∧ (qy : Int) ≤ 4294967296 * r + u1 := by
  refine ⟨q * y0, ?_, by omega⟩
  have e : (q : Int) * (y0 : Int) = ((q * y0 : Nat) : Int) := by push_cast; rfl
  have hlt : q * y0 < 4294967296 * 4294967296 := Nat.mul_lt_mul'' hq y0lt
  rw [e]; generalize q * y0 = t at *
  exact wrap_u64_of (by omega)

set_option maxHeartbeats 12800000 in
set_option maxRecDepth 100000 in
theorem div64_calls (hi lo y : Nat) (w : World) (hy : 0 < y) (hhi : hi < y) (hlo : lo < B64) (hyb : y < B64) :
    Calls Tryz.prog 125 #[.int .u64 hi, .int .u64 lo, .int .u64 y] w fun e w' => e = .returned (.tuple #[.int .u64 ((hi * B64 + lo) / y : Nat), .int .u64 ((hi * B64 + lo) % y : Nat)]) ∧ ∃ m, w' = w.drewN m := by
  by_cases h0 : hi = 0
  · subst h0
    have e1 : 0 * B64 + lo = lo := by omega
    rw [e1]
    have hy' : ((y : Int) == 0) = false := by simp; omega
    have hq : IntKind.u64.wrap ((lo : Int) / (y : Int)) = ((lo / y : Nat) : Int) := by
      have e : (lo : Int) / (y : Int) = ((lo / y : Nat) : Int) := by push_cast; rfl
      have hlt : lo / y < 18446744073709551616 := Nat.lt_of_le_of_lt (Nat.div_le_self _ _) hlo
      rw [e]
      generalize lo / y = q at *
      exact wrap_u64_of (by omega)
    clear e1 hlo hyb
    go_enter Tryz.func125, Tryz.ntmps125
    go_wp2_with fail
    go_quiet (fail)
    go_wp2_with fail
    go_ret2
    exact ⟨by push_cast; rfl, _, rfl⟩
  · obtain ⟨s, Y, y1, y0, H, u, L, u1, u0, q, p, r, Q1, a1, a2, a3, R1, q', p', r', Q0, b1, b2, b3, R0, f1, Qt, Rm, hs, X⟩ := Div64All.of hy hhi hlo hyb
    rw [← X.E1, ← X.E2]
    have hlz := Lib.hid ((Tryz.bits_LeadingZeros64 y w (by omega) (by unfold B64 at hyb; omega)).mono (R' := fun e w' => e = .returned (.int .i64 (s : Int)) ∧ w = w') (fun e w' h => ⟨by
      rw [h.1, Int.toNat_natCast, bitLen_eq y (by rw [← B64_pow]; exact hyb)]
      have : Dg.bl y ≤ 64 := Dg.bl_le (by rw [← B64_pow]; exact hyb)
      exact ret_int' (by omega), h.2.symm⟩))
    have hz : ((hi : Int) == 0) = false := by simpa using h0
    have hy' : ((y : Int) == 0) = false := by simp; omega
    have hs63 := X.D.s63
    have hm : min s 64 = s := by omega
    have y1pos : 0 < y1 := by have := X.D.y1ge; omega
    have hple := X.A.ple
    have hple' := X.A'.ple
    have y0lt := Lib.hid X.D.y0lt
    have u1lt := Lib.hid X.D.u1lt
    have u0lt := Lib.hid X.D.u0lt
    have ult := Lib.hid X.ult
    have ult2 := Lib.hid X.ult2
    have HQ1 := Lib.hid X.hQ1
    have HQ0 := Lib.hid X.hQ0
    have E1 := X.D.e1; have E2 := X.D.e2; have E3 := X.D.e3; have E4 := X.D.e4; have E5 := X.D.e5; have E6 := X.D.e6; have E7 := X.D.e7; have E8 := X.D.e8
    have A1 := X.A.r1; have A2 := X.A.r2; have A3 := X.A.r3
    have hult : (u : Int) ≤ 18446744073709551615 := by have := X.D.ult; have := X.D.Ylt; omega
    have hu1 : (u1 : Int) ≤ 4294967295 := by have := X.D.u1lt; omega
    have hy1 : (y1 : Int) ≤ 4294967295 := by have := X.D.hyy; have := X.D.Ylt; omega
    have hu0 : (u0 : Int) ≤ 4294967295 := by have := X.D.u0lt; omega
    have hult' : (R1 : Int) ≤ 18446744073709551615 := by have := X.R1lt; omega
    have HX := Lib.hid X
    clear hs X hlo hyb h0
    go_enter Tryz.func125, Tryz.ntmps125
    go_wp2_with fail
    refine (hlz.out).mono ?_
    rintro e w' ⟨rfl, rfl⟩
    go_wp2_with fail
    clear hlz E1 E2 E3 E4 E5 E6 E7 E8 A1 A2 A3 hm
    go_loop [15, 16] (fun a b => EstRel y1 y0 u u1 a b) (fun a _ => (intOf a).toNat)
    case atStart => exact ⟨_, _, rfl, rfl, by have := HX.out.A.rlt; omega, HX.out.A.est⟩
    case round =>
      obtain ⟨q, r, rfl, rfl, hr, hE'⟩ := hrel
      have hE := Lib.hid hE'
      have hq1 : (q : Int) ≤ 4294967297 := by have := hE'.2.2; omega
      clear hE'
      by_cases hm : 4294967296 ≤ q ∨ 4294967296 * r + u1 < q * y0
      · have hM := hE.out.more y1pos (by decide) u1lt.out ult.out hm
        have hq0 := hM.2
        have HM := Lib.hid hM.1
        have hpre := pre_more hm y0lt.out
        have hb := Lib.hid (fun h1 h2 => HM.out.broke y1pos (by decide) y0lt.out h1 h2)
        clear hm hM hE
        rcases hpre with hc | ⟨hc, qy, hqy, hlt⟩
        · have hd1 : decide ((4294967296 : Int) ≤ (q : Int)) = true := decide_eq_true hc
          by_cases hbr : (4294967296 : Int) ≤ (r : Int) + y1
          · have hd3 : decide ((4294967296 : Int) ≤ (r : Int) + y1) = true := decide_eq_true hbr
            have hfin := hb.out (by omega) (by omega)
            rw [← HQ1.out] at hfin
            have hq1' : (q : Int) - 1 = (Q1 : Int) := by omega
            clear hc hbr hfin
            have B1 := HX.out.B.r1; have B2 := HX.out.B.r2; have B3 := HX.out.B.r3; have B4 := HX.out.B.r4
            have A1 := HX.out.A'.r1; have A2 := HX.out.A'.r2; have A3 := HX.out.A'.r3
            go_wp2_with fail
            clear B1 B2 B3 B4 A1 A2 A3 hd1
            go_loop [18, 16] (fun a b => EstRel y1 y0 R1 u0 a b) (fun a _ => (intOf a).toNat)
            case atStart => exact ⟨_, _, rfl, rfl, by have := HX.out.A'.rlt; omega, HX.out.A'.est⟩
            case round =>
              obtain ⟨q, r, rfl, rfl, hr, hE'⟩ := hrel
              have hE := Lib.hid hE'
              have hq1 : (q : Int) ≤ 4294967297 := by have := hE'.2.2; omega
              clear hE'
              by_cases hm : 4294967296 ≤ q ∨ 4294967296 * r + u0 < q * y0
              · have hM := hE.out.more y1pos (by decide) u0lt.out ult2.out hm
                have hq0 := hM.2
                have HM := Lib.hid hM.1
                have hpre := pre_more hm y0lt.out
                have hb := Lib.hid (fun h1 h2 => HM.out.broke y1pos (by decide) y0lt.out h1 h2)
                clear hm hM hE
                rcases hpre with hc | ⟨hc, qy, hqy, hlt⟩
                · have hd1 : decide ((4294967296 : Int) ≤ (q : Int)) = true := decide_eq_true hc
                  by_cases hbr : (4294967296 : Int) ≤ (r : Int) + y1
                  · have hd3 : decide ((4294967296 : Int) ≤ (r : Int) + y1) = true := decide_eq_true hbr
                    have hfin := hb.out (by omega) (by omega)
                    rw [← HQ0.out] at hfin
                    have hq1' : (q : Int) - 1 = (Q0 : Int) := by omega
                    clear hc hbr hfin
                    have B1 := HX.out.B'.r1; have B2 := HX.out.B'.r2; have B3 := HX.out.B'.r3; have B4 := HX.out.B'.r4
                    have F1 := HX.out.F1; have F2 := HX.out.F2; have F3 := HX.out.F3
                    have hm : min s 64 = s := by omega
                    go_wp2_with fail
                    go_ret2
                    exact ⟨rfl, 0, rfl⟩
                  · have hd3 : decide ((4294967296 : Int) ≤ (r : Int) + y1) = false := decide_eq_false hbr
                    have hr' : (r : Int) + y1 ≤ 4294967295 := by omega
                    clear hc hbr
                    go_wp2_with fail
                    go_round
                    case rel => exact ⟨q - 1, r + y1, by go_num, by go_num, by push_cast; omega, HM.out⟩
                    case measure => simp only [intOf]; omega
                · have hd1 : decide ((4294967296 : Int) ≤ (q : Int)) = false := decide_eq_false (by omega)
                  have hd2 : decide ((4294967296 : Int) * r + u0 < qy) = true := decide_eq_true hlt
                  clear hlt
                  by_cases hbr : (4294967296 : Int) ≤ (r : Int) + y1
                  · have hd3 : decide ((4294967296 : Int) ≤ (r : Int) + y1) = true := decide_eq_true hbr
                    have hfin := hb.out (by omega) (by omega)
                    rw [← HQ0.out] at hfin
                    have hq1' : (q : Int) - 1 = (Q0 : Int) := by omega
                    clear hc hbr hfin
                    have B1 := HX.out.B'.r1; have B2 := HX.out.B'.r2; have B3 := HX.out.B'.r3; have B4 := HX.out.B'.r4
                    have F1 := HX.out.F1; have F2 := HX.out.F2; have F3 := HX.out.F3
                    have hm : min s 64 = s := by omega
                    go_wp2_with fail
                    go_ret2
                    exact ⟨rfl, 0, rfl⟩
                  · have hd3 : decide ((4294967296 : Int) ≤ (r : Int) + y1) = false := decide_eq_false hbr
                    have hr' : (r : Int) + y1 ≤ 4294967295 := by omega
                    clear hc hbr
                    go_wp2_with fail
                    go_round
                    case rel => exact ⟨q - 1, r + y1, by go_num, by go_num, by push_cast; omega, HM.out⟩
                    case measure => simp only [intOf]; omega
              · have hfit := hE.out.fits y1pos (by decide) (show q * y0 ≤ 4294967296 * r + u0 by omega)
                rw [← HQ0.out] at hfit
                obtain ⟨qy, hqy, hle⟩ := pre_fits (show q < 4294967296 by omega) (show q * y0 ≤ 4294967296 * r + u0 by omega) y0lt.out
                have hd1 : decide ((4294967296 : Int) ≤ (q : Int)) = false := decide_eq_false (by omega)
                have hd2 : decide ((4294967296 : Int) * r + u0 < qy) = false := decide_eq_false (by omega)
                clear hm hE hle
                subst hfit
                have B1 := HX.out.B'.r1; have B2 := HX.out.B'.r2; have B3 := HX.out.B'.r3; have B4 := HX.out.B'.r4
                have F1 := HX.out.F1; have F2 := HX.out.F2; have F3 := HX.out.F3
                have hm : min s 64 = s := by omega
                go_wp2_with fail
                go_ret2
                exact ⟨rfl, 0, rfl⟩
          · have hd3 : decide ((4294967296 : Int) ≤ (r : Int) + y1) = false := decide_eq_false hbr
            have hr' : (r : Int) + y1 ≤ 4294967295 := by omega
            clear hc hbr
            go_wp2_with fail
            go_round
            case rel => exact ⟨q - 1, r + y1, by go_num, by go_num, by push_cast; omega, HM.out⟩
            case measure => simp only [intOf]; omega
        · have hd1 : decide ((4294967296 : Int) ≤ (q : Int)) = false := decide_eq_false (by omega)
          have hd2 : decide ((4294967296 : Int) * r + u1 < qy) = true := decide_eq_true hlt
          clear hlt
          by_cases hbr : (4294967296 : Int) ≤ (r : Int) + y1
          · have hd3 : decide ((4294967296 : Int) ≤ (r : Int) + y1) = true := decide_eq_true hbr
            have hfin := hb.out (by omega) (by omega)
            rw [← HQ1.out] at hfin
            have hq1' : (q : Int) - 1 = (Q1 : Int) := by omega
            clear hc hbr hfin
            have B1 := HX.out.B.r1; have B2 := HX.out.B.r2; have B3 := HX.out.B.r3; have B4 := HX.out.B.r4
            have A1 := HX.out.A'.r1; have A2 := HX.out.A'.r2; have A3 := HX.out.A'.r3
            go_wp2_with fail
            clear B1 B2 B3 B4 A1 A2 A3 hd1
            go_loop [18, 16] (fun a b => EstRel y1 y0 R1 u0 a b) (fun a _ => (intOf a).toNat)
            case atStart => exact ⟨_, _, rfl, rfl, by have := HX.out.A'.rlt; omega, HX.out.A'.est⟩
            case round =>
              obtain ⟨q, r, rfl, rfl, hr, hE'⟩ := hrel
              have hE := Lib.hid hE'
              have hq1 : (q : Int) ≤ 4294967297 := by have := hE'.2.2; omega
              clear hE'
              by_cases hm : 4294967296 ≤ q ∨ 4294967296 * r + u0 < q * y0
              · have hM := hE.out.more y1pos (by decide) u0lt.out ult2.out hm
                have hq0 := hM.2
                have HM := Lib.hid hM.1
                have hpre := pre_more hm y0lt.out
                have hb := Lib.hid (fun h1 h2 => HM.out.broke y1pos (by decide) y0lt.out h1 h2)
                clear hm hM hE
                rcases hpre with hc | ⟨hc, qy, hqy, hlt⟩
                · have hd1 : decide ((4294967296 : Int) ≤ (q : Int)) = true := decide_eq_true hc
                  by_cases hbr : (4294967296 : Int) ≤ (r : Int) + y1
                  · have hd3 : decide ((4294967296 : Int) ≤ (r : Int) + y1) = true := decide_eq_true hbr
                    have hfin := hb.out (by omega) (by omega)
                    rw [← HQ0.out] at hfin
                    have hq1' : (q : Int) - 1 = (Q0 : Int) := by omega
                    clear hc hbr hfin
                    have B1 := HX.out.B'.r1; have B2 := HX.out.B'.r2; have B3 := HX.out.B'.r3; have B4 := HX.out.B'.r4
                    have F1 := HX.out.F1; have F2 := HX.out.F2; have F3 := HX.out.F3
                    have hm : min s 64 = s := by omega
                    go_wp2_with fail
                    go_ret2
                    exact ⟨rfl, 0, rfl⟩
                  · have hd3 : decide ((4294967296 : Int) ≤ (r : Int) + y1) = false := decide_eq_false hbr
                    have hr' : (r : Int) + y1 ≤ 4294967295 := by omega
                    clear hc hbr
                    go_wp2_with fail
                    go_round
                    case rel => exact ⟨q - 1, r + y1, by go_num, by go_num, by push_cast; omega, HM.out⟩
                    case measure => simp only [intOf]; omega
                · have hd1 : decide ((4294967296 : Int) ≤ (q : Int)) = false := decide_eq_false (by omega)
                  have hd2 : decide ((4294967296 : Int) * r + u0 < qy) = true := decide_eq_true hlt
                  clear hlt
                  by_cases hbr : (4294967296 : Int) ≤ (r : Int) + y1
                  · have hd3 : decide ((4294967296 : Int) ≤ (r : Int) + y1) = true := decide_eq_true hbr
                    have hfin := hb.out (by omega) (by omega)
                    rw [← HQ0.out] at hfin
                    have hq1' : (q : Int) - 1 = (Q0 : Int) := by omega
                    clear hc hbr hfin
                    have B1 := HX.out.B'.r1; have B2 := HX.out.B'.r2; have B3 := HX.out.B'.r3; have B4 := HX.out.B'.r4
                    have F1 := HX.out.F1; have F2 := HX.out.F2; have F3 := HX.out.F3
                    have hm : min s 64 = s := by omega
                    go_wp2_with fail
                    go_ret2
                    exact ⟨rfl, 0, rfl⟩
                  · have hd3 : decide ((4294967296 : Int) ≤ (r : Int) + y1) = false := decide_eq_false hbr
                    have hr' : (r : Int) + y1 ≤ 4294967295 := by omega
                    clear hc hbr
                    go_wp2_with fail
                    go_round
                    case rel => exact ⟨q - 1, r + y1, by go_num, by go_num, by push_cast; omega, HM.out⟩
                    case measure => simp only [intOf]; omega
              · have hfit := hE.out.fits y1pos (by decide) (show q * y0 ≤ 4294967296 * r + u0 by omega)
                rw [← HQ0.out] at hfit
                obtain ⟨qy, hqy, hle⟩ := pre_fits (show q < 4294967296 by omega) (show q * y0 ≤ 4294967296 * r + u0 by omega) y0lt.out
                have hd1 : decide ((4294967296 : Int) ≤ (q : Int)) = false := decide_eq_false (by omega)
                have hd2 : decide ((4294967296 : Int) * r + u0 < qy) = false := decide_eq_false (by omega)
                clear hm hE hle
                subst hfit
                have B1 := HX.out.B'.r1; have B2 := HX.out.B'.r2; have B3 := HX.out.B'.r3; have B4 := HX.out.B'.r4
                have F1 := HX.out.F1; have F2 := HX.out.F2; have F3 := HX.out.F3
                have hm : min s 64 = s := by omega
                go_wp2_with fail
                go_ret2
                exact ⟨rfl, 0, rfl⟩
          · have hd3 : decide ((4294967296 : Int) ≤ (r : Int) + y1) = false := decide_eq_false hbr
            have hr' : (r : Int) + y1 ≤ 4294967295 := by omega
            clear hc hbr
            go_wp2_with fail
            go_round
            case rel => exact ⟨q - 1, r + y1, by go_num, by go_num, by push_cast; omega, HM.out⟩
            case measure => simp only [intOf]; omega
      · have hfit := hE.out.fits y1pos (by decide) (show q * y0 ≤ 4294967296 * r + u1 by omega)
        rw [← HQ1.out] at hfit
        obtain ⟨qy, hqy, hle⟩ := pre_fits (show q < 4294967296 by omega) (show q * y0 ≤ 4294967296 * r + u1 by omega) y0lt.out
        have hd1 : decide ((4294967296 : Int) ≤ (q : Int)) = false := decide_eq_false (by omega)
        have hd2 : decide ((4294967296 : Int) * r + u1 < qy) = false := decide_eq_false (by omega)
        clear hm hE hle
        subst hfit
        have B1 := HX.out.B.r1; have B2 := HX.out.B.r2; have B3 := HX.out.B.r3; have B4 := HX.out.B.r4
        have A1 := HX.out.A'.r1; have A2 := HX.out.A'.r2; have A3 := HX.out.A'.r3
        go_wp2_with fail
        clear B1 B2 B3 B4 A1 A2 A3 hd1
        go_loop [18, 16] (fun a b => EstRel y1 y0 R1 u0 a b) (fun a _ => (intOf a).toNat)
        case atStart => exact ⟨_, _, rfl, rfl, by have := HX.out.A'.rlt; omega, HX.out.A'.est⟩
        case round =>
          obtain ⟨q, r, rfl, rfl, hr, hE'⟩ := hrel
          have hE := Lib.hid hE'
          have hq1 : (q : Int) ≤ 4294967297 := by have := hE'.2.2; omega
          clear hE'
          by_cases hm : 4294967296 ≤ q ∨ 4294967296 * r + u0 < q * y0
          · have hM := hE.out.more y1pos (by decide) u0lt.out ult2.out hm
            have hq0 := hM.2
            have HM := Lib.hid hM.1
            have hpre := pre_more hm y0lt.out
            have hb := Lib.hid (fun h1 h2 => HM.out.broke y1pos (by decide) y0lt.out h1 h2)
            clear hm hM hE
            rcases hpre with hc | ⟨hc, qy, hqy, hlt⟩
            · have hd1 : decide ((4294967296 : Int) ≤ (q : Int)) = true := decide_eq_true hc
              by_cases hbr : (4294967296 : Int) ≤ (r : Int) + y1
              · have hd3 : decide ((4294967296 : Int) ≤ (r : Int) + y1) = true := decide_eq_true hbr
                have hfin := hb.out (by omega) (by omega)
                rw [← HQ0.out] at hfin
                have hq1' : (q : Int) - 1 = (Q0 : Int) := by omega
                clear hc hbr hfin
                have B1 := HX.out.B'.r1; have B2 := HX.out.B'.r2; have B3 := HX.out.B'.r3; have B4 := HX.out.B'.r4
                have F1 := HX.out.F1; have F2 := HX.out.F2; have F3 := HX.out.F3
                have hm : min s 64 = s := by omega
                go_wp2_with fail
                go_ret2
                exact ⟨rfl, 0, rfl⟩
              · have hd3 : decide ((4294967296 : Int) ≤ (r : Int) + y1) = false := decide_eq_false hbr
                have hr' : (r : Int) + y1 ≤ 4294967295 := by omega
                clear hc hbr
                go_wp2_with fail
                go_round
                case rel => exact ⟨q - 1, r + y1, by go_num, by go_num, by push_cast; omega, HM.out⟩
                case measure => simp only [intOf]; omega
            · have hd1 : decide ((4294967296 : Int) ≤ (q : Int)) = false := decide_eq_false (by omega)
              have hd2 : decide ((4294967296 : Int) * r + u0 < qy) = true := decide_eq_true hlt
              clear hlt
              by_cases hbr : (4294967296 : Int) ≤ (r : Int) + y1
              · have hd3 : decide ((4294967296 : Int) ≤ (r : Int) + y1) = true := decide_eq_true hbr
                have hfin := hb.out (by omega) (by omega)
                rw [← HQ0.out] at hfin
                have hq1' : (q : Int) - 1 = (Q0 : Int) := by omega
                clear hc hbr hfin
                have B1 := HX.out.B'.r1; have B2 := HX.out.B'.r2; have B3 := HX.out.B'.r3; have B4 := HX.out.B'.r4
                have F1 := HX.out.F1; have F2 := HX.out.F2; have F3 := HX.out.F3
                have hm : min s 64 = s := by omega
                go_wp2_with fail
                go_ret2
                exact ⟨rfl, 0, rfl⟩
              · have hd3 : decide ((4294967296 : Int) ≤ (r : Int) + y1) = false := decide_eq_false hbr
                have hr' : (r : Int) + y1 ≤ 4294967295 := by omega
                clear hc hbr
                go_wp2_with fail
                go_round
                case rel => exact ⟨q - 1, r + y1, by go_num, by go_num, by push_cast; omega, HM.out⟩
                case measure => simp only [intOf]; omega
          · have hfit := hE.out.fits y1pos (by decide) (show q * y0 ≤ 4294967296 * r + u0 by omega)
            rw [← HQ0.out] at hfit
            obtain ⟨qy, hqy, hle⟩ := pre_fits (show q < 4294967296 by omega) (show q * y0 ≤ 4294967296 * r + u0 by omega) y0lt.out
            have hd1 : decide ((4294967296 : Int) ≤ (q : Int)) = false := decide_eq_false (by omega)
            have hd2 : decide ((4294967296 : Int) * r + u0 < qy) = false := decide_eq_false (by omega)
            clear hm hE hle
            subst hfit
            have B1 := HX.out.B'.r1; have B2 := HX.out.B'.r2; have B3 := HX.out.B'.r3; have B4 := HX.out.B'.r4
            have F1 := HX.out.F1; have F2 := HX.out.F2; have F3 := HX.out.F3
            have hm : min s 64 = s := by omega
            go_wp2_with fail
            go_ret2
            exact ⟨rfl, 0, rfl⟩

end Go.Proofs.YthlpfhenaakljaaGreatDoor

namespace Go.Proofs.YthlpfhenaakljaaGreatDoor
open Go.RowKit

theorem und_int : Tryz.prog.underlying 3 = some (.int .i64) := by kernel_rfl

theorem zeroCells_toList (m : Nat) : (Builtin.zeroCells #[Value.int .u64 0] m).toList = List.replicate m (Value.int .u64 0) := by
  apply List.ext_getElem
  · simp [Builtin.zeroCells]
  · intro i h1 h2
    simp only [Builtin.zeroCells, List.getElem_replicate, Array.getElem_toList, Array.getElem_map]
    simp [Nat.mod_one]

theorem run_append_zeros (w : World) (base ty g n cap m : Nat) (xs : List Value) (hown : w.ownsRow base 43 1 (.slice (some ⟨g, 0, none⟩) n cap) n xs)
    (hm : m ≤ 4398046511104) (hn : n ≤ 4398046511104) (hbase : base ≤ w.heap.size) :
    ∃ v' w', (Builtin.append_ #[23, 3] ty #[.slice (some ⟨g, 0, none⟩) n cap, .int .i64 (m : Int)]).run Tryz.prog w = .ok v' w' ∧ w'.ownsRow base 43 1 v' (n + m) (xs ++ List.replicate m (.int .u64 0)) ∧ w.grownBy w' (some g) := by
  obtain ⟨i, hi, hz, hs, hb⟩ := info_parts info_u64
  have wm : IntKind.i64.wrap (m : Int) = m := by rw [IntKind.wrap_i64]; omega
  have m1 : ¬ ((m : Int) < 0) := by omega
  have m2 : ¬ ((2 : Int) ^ 48 < (m : Int) * (8 : Nat)) := by omega
  rcases hown.2 with ⟨h, _⟩ | ⟨g', cap', cur, h, hbg, hg, hnc, hcm, hcs, htake⟩
  · simp at h
  simp only [Value.slice.injEq, Option.some.injEq, Addr.mk.injEq, and_true, true_and] at h
  obtain ⟨rfl, rfl⟩ := h
  have hlen : (xs ++ List.replicate m (Value.int .u64 0)).length = (n + m) * 1 := by simp [hown.1]
  by_cases h0 : m = 0
  · subst h0
    have w0 : IntKind.i64.wrap 0 = 0 := by decide
    refine ⟨.slice (some ⟨g, 0, none⟩) n cap, w, ?_, ?_, ⟨rfl, rfl, rfl, Nat.le_refl _, fun _ _ _ => rfl⟩⟩
    rotate_left
    · simpa using hown
    · simp [Builtin.append_, run_underlying und_Nat, run_underlying und_int, sizeOf, typeInfo, hi, asInt, asIntOf, w0, hnc, storeCells]
  have hzc : (Value.int IntKind.u64 0).cells = #[Value.int .u64 0] := rfl
  by_cases hroom : n + m ≤ cap
  · have hone : ∀ v ∈ List.replicate m (Value.int .u64 0), v.oneCell' = true := fun v hv => by rw [List.eq_of_mem_replicate hv]; rfl
    have hst := run_storeCells_at Tryz.prog g n 43 (List.replicate m (Value.int .u64 0)) 0 cur w hg (by simp; omega) hone
    simp only [Nat.add_zero] at hst
    refine ⟨.slice (some ⟨g, 0, none⟩) (n + m) cap, w.setRow g (cur.toList.take n ++ List.replicate m (Value.int .u64 0) ++ cur.toList.drop (n + (List.replicate m (Value.int .u64 0)).length)).toArray, ?_, ⟨hlen, .inr ⟨g, cap, _, rfl, hbg, setRow_heap w g cur _ 43 _ hg, hroom, hcm, ?_, ?_⟩⟩, ⟨rfl, rfl, rfl, by simp, fun k _ hk => setRow_other w g k _ (fun e => hk (by simp [e]))⟩⟩
    · have m3 : ¬ (281474976710656 < (m : Int) * 8) := by omega
      have m4 : ¬ (m : Int) < 0 := by omega
      have m5 : ¬ (m = 0) := h0
      simp [Builtin.append_, run_underlying und_Nat, run_underlying und_int, sizeOf, typeInfo, hi, hs, hb, asInt, asIntOf, wm, hroom, zeroValue, hz, hzc, Addr.add_lit, zeroCells_toList, hst, m3, m4, m5]
    · simp; omega
    · rw [← htake, Nat.mul_one, List.append_assoc]
      have hl : (cur.toList.take (n * 1) ++ List.replicate m (Value.int IntKind.u64 0)).length = n + m := by simp; omega
      rw [Nat.mul_one] at hl
      have hl2 : n + m = (cur.toList.take n ++ List.replicate m (Value.int IntKind.u64 0)).length := by omega
      rw [Nat.mul_one, ← List.append_assoc, hl2]
      exact List.take_left
  · have m3 : ¬ (281474976710656 < (m : Int) * 8) := by omega
    have m4 : ¬ (m : Int) < 0 := by omega
    have m5 : ¬ (m = 0) := by omega
    have m6 : ¬ (9223372036854775807 < (n : Int) + (m : Int)) := by omega
    have m7 : ¬ (281474976710656 < Builtin.nextslicecap (n + m) cap * 8) := by
      have := growslice_fits (need := n + m) (old := cap) (bytes := 8) (by omega) (by omega); omega
    have hcells : ∀ j u, xs[j]? = some u → w.drew.cell? ((⟨g, 0, none⟩ : Addr).add j) = some u := hown.cells (g := g) rfl
    have hfo := run_firstCells_some (P := Tryz.prog) w.drew 1 n ⟨g, 0, none⟩ n cap xs hown.1 hcells
    have hge := grownCap_ge w (n + m) cap 43
    have hcm' := grownCap_le_maxLen w (n + m) cap 43 (by unfold maxLen; omega)
    refine ⟨.slice (some ⟨w.heap.size, 0, none⟩) (n + m) (grownCap w (n + m) cap 43), w.drew.alloc (.cells (xs.toArray ++ Builtin.zeroCells #[.int .u64 0] m ++ Builtin.zeroCells #[.int .u64 0] (grownCap w (n + m) cap 43 - (n + m))) 43), ?_, ⟨hlen, .inr ⟨w.heap.size, _, _, rfl, hbase, heap_alloc_new w.drew _, hge, hcm', ?_, ?_⟩⟩, ⟨rfl, rfl, rfl, by simp, fun k hk _ => heap_alloc_old w.drew _ hk⟩⟩
    · simp [Builtin.append_, run_underlying und_Nat, run_underlying und_int, sizeOf, typeInfo, hi, hs, hb, asInt, asIntOf, wm, hroom, zeroValue, hz, m3, m4, m5, m6, m7, hfo, newRow, grownCap, Question.forced, hzc]
    · have := hown.1
      simp [size_zeroCells]; omega
    · have h1 := hown.1
      simp [zeroCells_toList]
      have e : n + m = xs.length + m := by omega
      have e2 : m + (grownCap w (n + m) cap 43 - (n + m)) = m + (grownCap w (n + m) cap 43 - (n + m)) := rfl
      generalize grownCap w (n + m) cap 43 - (n + m) = q
      clear hm m3 m6 wm
      rw [e, List.take_append, List.take_of_length_le (Nat.le_add_right _ _), Nat.add_sub_cancel_left, List.take_replicate, Nat.min_eq_left (Nat.le_add_right _ _)]

theorem wpList_append_zeros {ops : Array Oper} {rest : List Oper} {o : Oper} {a : Act} {w : World} {Q : Exit → Act → World → Prop} (hgd : o.guard = none) (s x : Operand)
    (ho : o.op = .call { callee := .builtin .append, args := #[s, x], argTypes := #[23, 3] })
    (base g n cap m : Nat) (xs : List Value) (hs : a.eval s = .slice (some ⟨g, 0, none⟩) n cap) (hx : a.eval x = .int .i64 (m : Int)) (hown : w.ownsRow base 43 1 (.slice (some ⟨g, 0, none⟩) n cap) n xs)
    (hm : m ≤ 4398046511104) (hn : n ≤ 4398046511104) (hbase : base ≤ w.heap.size)
    (h : ∀ v' w', w'.ownsRow base 43 1 v' (n + m) (xs ++ List.replicate m (.int .u64 0)) → w.grownBy w' (some g) → wpList Tryz.prog ops Q rest (a.put o.dst v') w') : wpList Tryz.prog ops Q (o :: rest) a w := by
  obtain ⟨v', w', hr, h2, h3⟩ := run_append_zeros w base o.type g n cap m xs hown hm hn hbase
  refine wpList_plain hgd fun _ hK => ?_
  unfold Oper.wp execOp
  simp only [ho, resolve, invoke, builtin, Sem.run_bind, Sem.run_pure, Result.andThen_ok, List.map_toArray, List.map_cons, List.map_nil, hs, hx, hr]
  exact hK _ _ (h v' w' h2 h3)

end Go.Proofs.YthlpfhenaakljaaGreatDoor

namespace Go.Proofs.YthlpfhenaakljaaGreatDoor
open Go.RowKit

set_option maxHeartbeats 400000 in
theorem wdiv_calls (hi lo y : Nat) (w : World) (hy : 0 < y) (hhi : hi < y) (hlo : lo < B64) (hyb : y < B64) :
    Calls Tryz.prog 112 #[.int .u64 hi, .int .u64 lo, .int .u64 y] w fun e w' => e = .returned (.tuple #[.int .u64 ((hi * B64 + lo) / y : Nat), .int .u64 ((hi * B64 + lo) % y : Nat), .int .i64 0]) ∧ ∃ m, w' = w.drewN m := by
  have hc := Lib.hid (div64_calls hi lo y w hy hhi hlo hyb)
  generalize (hi * B64 + lo) / y = q at *
  generalize (hi * B64 + lo) % y = r at *
  have h1 : ¬ (y : Int) = 0 := by omega
  have h2 : (hi : Int) < y := by omega
  clear hlo hyb hy hhi
  go_enter Tryz.func112, Tryz.ntmps112
  go_wp2_with fail
  refine (hc.out).mono ?_
  rintro e w' ⟨rfl, hb⟩
  go_wp2_with fail
  go_ret3
  exact ⟨rfl, hb⟩

/-- What quo.guess answers. -/
def guessV (hi lo d : Nat) : Nat := if d ≤ hi then 18446744073709551615 else (hi * B64 + lo) / d

set_option maxHeartbeats 400000 in
theorem guess_calls (hi lo y : Nat) (w : World) (hy : 0 < y) (hlo : lo < B64) (hyb : y < B64) :
    Calls Tryz.prog 79 #[.int .u64 hi, .int .u64 lo, .int .u64 y] w fun e w' => e = .returned (.int .u64 (guessV hi lo y : Nat)) ∧ ∃ m, w' = w.drewN m := by
  unfold guessV
  by_cases h : y ≤ hi
  · rw [if_pos h]
    clear hlo hyb hy
    go_enter Tryz.func79, Tryz.ntmps79
    go_wp2_with fail
    go_ret
    exact ⟨rfl, 0, rfl⟩
  · rw [if_neg h]
    have hc := Lib.hid (wdiv_calls hi lo y w hy (by omega) hlo hyb)
    generalize (hi * B64 + lo) / y = q at *
    generalize (hi * B64 + lo) % y = r at *
    clear hlo hyb hy
    go_enter Tryz.func79, Tryz.ntmps79
    go_wp2_with fail
    refine (hc.out).mono ?_
    rintro e w' ⟨rfl, hb⟩
    go_wp2_with fail
    go_ret
    exact ⟨rfl, hb⟩

theorem RowAt.below {w0 wr w' : World} {g n : Nat} {ds : List Nat} (h : RowAt w0 wr g n ds) (hb : Below wr.heap.size wr w') : RowAt w0 w' g n ds :=
  ⟨h.1, ownsRow_below h.2.1 hb, h.2.2.trans (hb.mono h.2.2.size)⟩

set_option maxHeartbeats 1600000 in
theorem short_calls (v : Value) (xs : List Nat) (d : Nat) (w : World) (hv : Nv w v xs) (hl : xs.length ≤ 1099511627776) (hd : 0 < d) (hdb : d < B64) :
    Calls Tryz.prog 76 #[v, .int .u64 d] w fun e w' => ∃ v', e = .returned (.tuple #[v', .int .u64 (Dg.dv B64 xs % d : Nat)]) ∧ No w.heap.size w' v' (Dg.db B64 (Dg.dv B64 xs / d)) ∧ Below w.heap.size w w' := by
  obtain ⟨i0, hi, hz0, hz1, hz2⟩ := info_parts info_u64
  obtain ⟨hx, a, cap, rfl, hcap, rd⟩ := hv
  go_enter Tryz.func76, Tryz.ntmps76
  go_wp2_with (at_make; refine wpList_make_full _ rfl _ _ 23 rfl w.heap.size 43 i0 (.int .u64 0) 1 und_Nat hi hz0 hz1 .i64 .i64 _ _ xs.length rfl rfl ?_ ?_ ?_ ?_ ?_ ?_)
  · omega
  · omega
  · rw [hz2]; omega
  · unfold maxLen; omega
  · omega
  intro w1 hown hg
  have HR := Lib.hid (RowAt.made (Below.refl _ _) hown hg)
  have HS := Lib.hid (Dg.ShortAt.start (b := B64) (by decide) xs hd)
  clear hown hg hi hz0 hz1 hz2
  generalize w.heap.size = g at *
  go_wp2_with fail
  go_loopw [5, 6] (fun r s wr => ∃ k rr : Nat, k ≤ xs.length ∧ s = .int .i64 ((k : Int) - 1) ∧ r = .int .u64 rr ∧ Hid (∃ qs, Dg.ShortAt B64 xs d k qs rr ∧ RowAt w wr g xs.length qs)) (fun _ s _ => (intOf s + 1).toNat)
  case atStart => exact ⟨xs.length, 0, Nat.le_refl _, rfl, rfl, _, HS.out, HR.out⟩
  case round =>
    obtain ⟨k, rr, hk, rfl, rfl, hrel⟩ := hrel
    obtain ⟨qs, hS, hR⟩ := hrel.out
    clear hrel HR HS
    by_cases h0 : 0 < k
    · obtain ⟨i, rfl⟩ : ∃ i, k = i + 1 := ⟨k - 1, by omega⟩
      have hei : ((i + 1 : Nat) : Int) - 1 = (i : Int) := by omega
      rw [hei]
      obtain ⟨b1, o1, rfl, hb1, hc1⟩ := (rd.below hR.2.2).cell (fun h => by simp [h] at hk)
      have hcx := hc1 i (by omega)
      have hxb := hx.getD i
      obtain ⟨s1, s2⟩ := hS.step hx (by omega) hd (by decide)
      have hrd := hS.2.2.1
      have HC := Lib.hid (wdiv_calls rr (xs.getD i 0) d wr hd hrd hxb hdb)
      have HS := Lib.hid s2
      clear hS s2 hc1 hb1
      generalize xs.getD i 0 = x at *
      generalize (rr * B64 + x) / d = q at *
      generalize (rr * B64 + x) % d = r' at *
      have HR := Lib.hid hR
      clear hR hxb
      go_wp2_with fail
      refine (HC.out).mono ?_
      rintro e w' ⟨rfl, nq, rfl⟩
      have hR' := HR.out.below (below_drewN (Below.refl _ _) nq)
      have hcell := hR'.cell (k := i) (by omega)
      have hfree := hR'.free i
      have HR' := Lib.hid (fun r => hR'.set i r)
      clear hR' hcx HR HC
      generalize qs.getD i 0 = old at *
      go_wp2_with fail
      go_roundw
      case rel => exact ⟨i, r', by omega, by go_num, rfl, _, HS.out, HR'.out q⟩
      case measure => simp only [intOf]; omega
    · obtain rfl : k = 0 := by omega
      have hnv := Lib.hid (hR.nv hS.2.1)
      have hbw := Lib.hid hR.2.2
      have hdl : qs.length ≤ 2199023255552 := by have := hR.1; omega
      obtain ⟨e1, e2⟩ := hS.end'
      have hval := Lib.hid e1
      clear hR hS
      have hmod := Lib.hid e2
      clear e1 e2
      go_wp2_with fail
      refine (trim_calls _ qs _ hnv.out (by omega)).mono ?_
      rintro e w2 ⟨v, rfl, hno, hbl⟩
      go_wp2_with fail
      go_ret2
      exact ⟨v, by rw [← hmod.out]; rfl, by rw [← hval.out]; exact hno.mono hbw.out.size, hbw.out.trans (hbl.mono hbw.out.size)⟩

end Go.Proofs.YthlpfhenaakljaaGreatDoor
