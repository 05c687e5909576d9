/- Plain laws: digits to a base. No program in sight. Plain laws: comparing by digits; the length in bits. Plain laws: sums and differences digit by digit. Plain laws: a product digit by digit. Plain laws: shifts by bits over limbs of 64 bits. Plain laws: two words divided by one (the schoolbook's estimate of half a word and its corrections). Plain laws: long division (the guess, what is taken and given back, the rounds). Plain laws: a long division's start, and its guesses. A region that draws its order: quiet operations, then a tail in one forced order. The words of the limbs: what a slice of words reads as; the first leaves (word.one, nat.limb). slices.Clone at api.Nat; nat.Trim. nat.Cmp, word.Len, nat.Len, nat.Zero, nat.Small, nat.Of, nat.may. word.Len, nat.Len, nat.Zero, nat.Small, nat.Of, nat.may. -/
import Derived.Test.YthlpfhenaakljaaGreatDoorProg
import Derived.WalkKit
import Derived.Deep.Quiet
import Derived.Deep.QuietTactic
import Derived.StillTail
import Derived.KernelRfl
import Derived.WalkSpells
import Derived.WalkLawsBesides
import Derived.Lib.Hide
import Derived.BigQuiet
import Derived.Laws.AppendOwnNone
namespace Go.Proofs.YthlpfhenaakljaaGreatDoor.Dg

/-- The number of digits to the base b, lowest first. -/
def dv (b : Nat) : List Nat → Nat
  | [] => 0
  | x :: r => x + b * dv b r

/-- All digits are below the base. -/
def Ds (b : Nat) (xs : List Nat) : Prop := ∀ x ∈ xs, x < b

/-- The digits of a number, lowest first, without 0s at the end (fuel: the number itself). -/
def dbF (b : Nat) : Nat → Nat → List Nat
  | 0, _ => []
  | f + 1, n => if n = 0 then [] else n % b :: dbF b f (n / b)
def db (b n : Nat) : List Nat := dbF b n n

theorem dbF_any {b : Nat} (hb : 2 ≤ b) : ∀ f n, n ≤ f → ∀ g, n ≤ g → dbF b f n = dbF b g n := by
  intro f
  induction f with
  | zero =>
    intro n hn g hg
    have : n = 0 := by omega
    subst this
    cases g <;> simp [dbF]
  | succ f ih =>
    intro n hn g hg
    cases g with
    | zero =>
      have : n = 0 := by omega
      subst this; simp [dbF]
    | succ g =>
      by_cases h : n = 0
      · subst h; simp [dbF]
      · simp only [dbF, h, if_false]
        have : n / b < n := Nat.div_lt_self (by omega) (by omega)
        rw [ih (n / b) (by omega) g (by omega)]

theorem db_zero (b : Nat) : db b 0 = [] := rfl

theorem db_pos {b n : Nat} (hb : 2 ≤ b) (hn : 0 < n) : db b n = n % b :: db b (n / b) := by
  unfold db
  obtain ⟨m, rfl⟩ : ∃ m, n = m + 1 := ⟨n - 1, by omega⟩
  have h1 : (m + 1) / b < m + 1 := Nat.div_lt_self (by omega) (by omega)
  rw [dbF, if_neg (by omega), dbF_any hb m ((m + 1) / b) (by omega) ((m + 1) / b) (Nat.le_refl _)]

theorem db_nil_iff {b n : Nat} (hb : 2 ≤ b) : db b n = [] ↔ n = 0 := by
  by_cases h : n = 0
  · subst h; simp [db_zero]
  · rw [db_pos hb (by omega)]; simp [h]

theorem dv_db {b : Nat} (hb : 2 ≤ b) (n : Nat) : dv b (db b n) = n := by
  induction n using Nat.strongRecOn with
  | _ n ih =>
    by_cases h : n = 0
    · subst h; rfl
    · rw [db_pos hb (by omega), dv, ih (n / b) (Nat.div_lt_self (by omega) (by omega))]
      exact Nat.mod_add_div n b

theorem db_Ds {b : Nat} (hb : 2 ≤ b) (n : Nat) : Ds b (db b n) := by
  induction n using Nat.strongRecOn with
  | _ n ih =>
    by_cases h : n = 0
    · subst h; intro x hx; simp [db_zero] at hx
    · rw [db_pos hb (by omega)]
      intro x hx
      rcases List.mem_cons.1 hx with rfl | hx
      · exact Nat.mod_lt _ (by omega)
      · exact ih (n / b) (Nat.div_lt_self (by omega) (by omega)) x hx

theorem Ds.tail {b x : Nat} {xs : List Nat} (h : Ds b (x :: xs)) : Ds b xs := fun y hy => h y (List.mem_cons_of_mem _ hy)
theorem Ds.head {b x : Nat} {xs : List Nat} (h : Ds b (x :: xs)) : x < b := h x (List.mem_cons_self ..)
theorem Ds.take {b : Nat} {xs : List Nat} (h : Ds b xs) (k : Nat) : Ds b (xs.take k) := fun x hx => h x (List.mem_of_mem_take hx)
theorem Ds.drop {b : Nat} {xs : List Nat} (h : Ds b xs) (k : Nat) : Ds b (xs.drop k) := fun x hx => h x (List.mem_of_mem_drop hx)
theorem Ds.append {b : Nat} {xs ys : List Nat} (h : Ds b xs) (k : Ds b ys) : Ds b (xs ++ ys) := fun x hx => (List.mem_append.1 hx).elim (h x) (k x)
theorem Ds.nil (b : Nat) : Ds b [] := fun x hx => by simp at hx
theorem Ds.getD {b : Nat} {xs : List Nat} (hb : 0 < b) (h : Ds b xs) (j : Nat) : xs.getD j 0 < b := by
  by_cases hj : j < xs.length
  · have := h xs[j] (List.getElem_mem hj)
    simpa [List.getD, hj] using this
  · simp [List.getD, hj, hb]

theorem dv_append (b : Nat) (xs ys : List Nat) : dv b (xs ++ ys) = dv b xs + b ^ xs.length * dv b ys := by
  induction xs with
  | nil => simp [dv]
  | cons x r ih =>
    simp only [List.cons_append, dv, ih, List.length_cons, Nat.pow_succ]
    rw [Nat.mul_add, ← Nat.add_assoc, Nat.mul_comm (b ^ r.length) b, Nat.mul_assoc]

theorem dv_lt {b : Nat} (xs : List Nat) (h : Ds b xs) : dv b xs < b ^ xs.length := by
  induction xs with
  | nil => simp [dv]
  | cons x r ih =>
    have h1 := ih h.tail
    have h2 := h.head
    simp only [dv, List.length_cons, Nat.pow_succ]
    have : b * dv b r + b ≤ b ^ r.length * b := by
      have : b * (dv b r + 1) ≤ b * b ^ r.length := Nat.mul_le_mul_left b h1
      rw [Nat.mul_add, Nat.mul_one] at this
      rw [Nat.mul_comm (b ^ r.length) b]; exact this
    omega

theorem dv_eq_zero {b : Nat} {xs : List Nat} (hb : 0 < b) : dv b xs = 0 ↔ ∀ x ∈ xs, x = 0 := by
  induction xs with
  | nil => simp [dv]
  | cons x r ih =>
    simp only [dv, List.mem_cons, forall_eq_or_imp, ← ih]
    constructor
    · intro h
      have h1 : x = 0 := by omega
      have h2 : b * dv b r = 0 := by omega
      rcases Nat.mul_eq_zero.1 h2 with h | h
      · omega
      · exact ⟨h1, h⟩
    · rintro ⟨rfl, h⟩; rw [h]; simp

theorem dv_replicate_zero (b k : Nat) : dv b (List.replicate k 0) = 0 := by
  induction k with
  | zero => rfl
  | succ k ih => simp [List.replicate_succ, dv, ih]

/-- A digit by its place. -/
theorem getD_eq {b : Nat} (hb : 0 < b) (xs : List Nat) (h : Ds b xs) (i : Nat) : xs.getD i 0 = dv b xs / b ^ i % b := by
  induction xs generalizing i with
  | nil => simp [dv, List.getD]
  | cons x r ih =>
    cases i with
    | zero =>
      simp only [List.getD_cons_zero, Nat.pow_zero, Nat.div_one, dv]
      rw [Nat.add_mul_mod_self_left, Nat.mod_eq_of_lt h.head]
    | succ i =>
      rw [List.getD_cons_succ, ih h.tail]
      simp only [dv]
      rw [Nat.pow_succ, Nat.mul_comm (b ^ i) b, ← Nat.div_div_eq_div_mul]
      congr 2
      rw [Nat.add_mul_div_left _ _ hb, Nat.div_eq_of_lt h.head, Nat.zero_add]

theorem db_length {b n k : Nat} (hb : 2 ≤ b) (h : n < b ^ k) : (db b n).length ≤ k := by
  induction k generalizing n with
  | zero =>
    have : n = 0 := by simpa using h
    subst this; simp [db_zero]
  | succ k ih =>
    by_cases hn : n = 0
    · subst hn; simp [db_zero]
    · rw [db_pos hb (by omega)]
      have : n / b < b ^ k := by
        rw [Nat.div_lt_iff_lt_mul (by omega)]
        rw [Nat.pow_succ] at h; exact h
      simpa using ih this

theorem db_length_gt {b n k : Nat} (hb : 2 ≤ b) (h : b ^ k ≤ n) : k < (db b n).length := by
  rcases Nat.lt_or_ge k (db b n).length with h1 | h1
  · exact h1
  · exfalso
    have h2 := dv_lt (db b n) (db_Ds hb n)
    rw [dv_db hb] at h2
    have h3 : b ^ (db b n).length ≤ b ^ k := Nat.pow_le_pow_right (by omega) h1
    omega

theorem lt_pow_length {b : Nat} (hb : 2 ≤ b) (n : Nat) : n < b ^ (db b n).length := by
  have h2 := dv_lt (db b n) (db_Ds hb n)
  rwa [dv_db hb] at h2

/-- Digits whose last one is not 0 are the digits of their number. -/
theorem db_dv {b : Nat} (hb : 2 ≤ b) (xs : List Nat) (h : Ds b xs) (hl : xs = [] ∨ xs.getD (xs.length - 1) 0 ≠ 0) : db b (dv b xs) = xs := by
  induction xs with
  | nil => rfl
  | cons x r ih =>
    have hx := h.head
    have hpos : 0 < dv b (x :: r) := by
      rcases Nat.eq_zero_or_pos (dv b (x :: r)) with h0 | h0
      · exfalso
        rw [dv_eq_zero (by omega)] at h0
        rcases hl with hl | hl
        · simp at hl
        · apply hl
          have : (x :: r).length - 1 < (x :: r).length := by simp
          simp only [List.getD, this, List.getElem?_eq_getElem, Option.getD_some]
          exact h0 _ (List.getElem_mem _)
      · exact h0
    rw [db_pos hb hpos]
    have e1 : dv b (x :: r) % b = x := by simp only [dv]; rw [Nat.add_mul_mod_self_left, Nat.mod_eq_of_lt hx]
    have e2 : dv b (x :: r) / b = dv b r := by simp only [dv]; rw [Nat.add_mul_div_left _ _ (by omega), Nat.div_eq_of_lt hx, Nat.zero_add]
    rw [e1, e2, ih h.tail]
    rcases r with _ | ⟨y, s⟩
    · exact .inl rfl
    · right
      rcases hl with hl | hl
      · simp at hl
      · simpa using hl

theorem dv_take_drop (b : Nat) (xs : List Nat) (k : Nat) (hk : k ≤ xs.length) : dv b xs = dv b (xs.take k) + b ^ k * dv b (xs.drop k) := by
  have := dv_append b (xs.take k) (xs.drop k)
  rw [List.take_append_drop] at this
  rw [this, List.length_take, Nat.min_eq_left hk]

/-- What is left when the 0s at the end are struck. -/
theorem take_eq_db {b : Nat} (hb : 2 ≤ b) (xs : List Nat) (h : Ds b xs) (n : Nat) (hn : n ≤ xs.length) (hz : ∀ j, n ≤ j → xs.getD j 0 = 0)
    (hl : n = 0 ∨ xs.getD (n - 1) 0 ≠ 0) : xs.take n = db b (dv b xs) := by
  have e : dv b xs = dv b (xs.take n) := by
    rw [dv_take_drop b xs n hn]
    have : dv b (xs.drop n) = 0 := by
      rw [dv_eq_zero (by omega)]
      intro x hx
      obtain ⟨j, hj, rfl⟩ := List.getElem_of_mem hx
      have := hz (n + j) (by omega)
      rw [List.length_drop] at hj
      simpa [List.getD, show n + j < xs.length by omega] using this
    rw [this]; simp
  rw [e, db_dv hb _ (h.take n)]
  rcases hl with rfl | hl
  · left; simp
  · right
    rw [List.length_take, Nat.min_eq_left hn]
    have h0 : n ≠ 0 := by
      rintro rfl
      exact hl (hz _ (Nat.zero_le _))
    have : (xs.take n).getD (n - 1) 0 = xs.getD (n - 1) 0 := by
      simp only [List.getD, List.getElem?_take]
      rw [if_pos (by omega)]
    rwa [this]

theorem dv_set {b : Nat} (xs : List Nat) (i v : Nat) (hi : i < xs.length) : dv b (xs.set i v) + b ^ i * xs.getD i 0 = dv b xs + b ^ i * v := by
  induction xs generalizing i with
  | nil => simp at hi
  | cons x r ih =>
    cases i with
    | zero => simp [dv]; omega
    | succ i =>
      have := ih i (by simpa using hi)
      simp only [List.set_cons_succ, dv, List.getD_cons_succ, Nat.pow_succ]
      have h2 : b * dv b (r.set i v) + b * (b ^ i * r.getD i 0) = b * dv b r + b * (b ^ i * v) := by
        rw [← Nat.mul_add, ← Nat.mul_add, this]
      have e1 : b ^ i * b * r.getD i 0 = b * (b ^ i * r.getD i 0) := by rw [Nat.mul_comm (b ^ i) b, Nat.mul_assoc]
      have e2 : b ^ i * b * v = b * (b ^ i * v) := by rw [Nat.mul_comm (b ^ i) b, Nat.mul_assoc]
      rw [e1, e2]; omega

end Go.Proofs.YthlpfhenaakljaaGreatDoor.Dg

namespace Go.Proofs.YthlpfhenaakljaaGreatDoor.Dg

theorem dv_tail (b : Nat) (xs : List Nat) : dv b xs = xs.getD 0 0 + b * dv b xs.tail := by
  cases xs <;> simp [dv]
theorem getD_tail (xs : List Nat) (j : Nat) : xs.tail.getD j 0 = xs.getD (j + 1) 0 := by
  cases xs <;> simp
theorem Ds_tail {b : Nat} {xs : List Nat} (h : Ds b xs) : Ds b xs.tail := fun x hx => h x (List.mem_of_mem_tail hx)

theorem dv_congr (b : Nat) : ∀ (n : Nat) (xs ys : List Nat), xs.length ≤ n → ys.length ≤ n → (∀ j, xs.getD j 0 = ys.getD j 0) → dv b xs = dv b ys := by
  intro n
  induction n with
  | zero =>
    intro xs ys h1 h2 _
    rw [List.eq_nil_of_length_eq_zero (by omega : xs.length = 0), List.eq_nil_of_length_eq_zero (by omega : ys.length = 0)]
  | succ n ih =>
    intro xs ys h1 h2 h
    rw [dv_tail b xs, dv_tail b ys, h 0, ih xs.tail ys.tail (by simp; omega) (by simp; omega) (fun j => by rw [getD_tail, getD_tail]; exact h (j + 1))]

theorem dv_eq_of_getD (b : Nat) (xs ys : List Nat) (h : ∀ j, xs.getD j 0 = ys.getD j 0) : dv b xs = dv b ys :=
  dv_congr b (max xs.length ys.length) xs ys (by omega) (by omega) h

theorem lt_of_digit {b : Nat} (hb : 0 < b) (k : Nat) : ∀ xs ys : List Nat, Ds b xs → Ds b ys → (∀ j, k < j → xs.getD j 0 = ys.getD j 0) → xs.getD k 0 < ys.getD k 0 → dv b xs < dv b ys := by
  induction k with
  | zero =>
    intro xs ys hx hy h hlt
    rw [dv_tail b xs, dv_tail b ys, dv_eq_of_getD b xs.tail ys.tail (fun j => by rw [getD_tail, getD_tail]; exact h (j + 1) (by omega))]
    omega
  | succ k ih =>
    intro xs ys hx hy h hlt
    have := ih xs.tail ys.tail (Ds_tail hx) (Ds_tail hy) (fun j hj => by rw [getD_tail, getD_tail]; exact h (j + 1) (by omega)) (by rw [getD_tail, getD_tail]; exact hlt)
    rw [dv_tail b xs, dv_tail b ys]
    have h1 := Ds.getD hb hx 0
    have h2 : b * (dv b xs.tail + 1) ≤ b * dv b ys.tail := Nat.mul_le_mul_left b this
    rw [Nat.mul_add, Nat.mul_one] at h2
    omega

/-- How two numbers stand to each other. -/
def cmpZ (m n : Nat) : Int := if m < n then -1 else if n < m then 1 else 0

theorem cmpZ_lt {m n : Nat} (h : m < n) : cmpZ m n = -1 := by simp [cmpZ, h]
theorem cmpZ_gt {m n : Nat} (h : n < m) : cmpZ m n = 1 := by simp [cmpZ, h, show ¬ m < n by omega]
theorem cmpZ_eq (m : Nat) : cmpZ m m = 0 := by simp [cmpZ]
theorem cmpZ_range (m n : Nat) : -1 ≤ cmpZ m n ∧ cmpZ m n ≤ 1 := by unfold cmpZ; split <;> (try split) <;> omega
theorem cmpZ_neg {m n : Nat} : cmpZ m n < 0 ↔ m < n := by unfold cmpZ; split <;> (try split) <;> omega
theorem cmpZ_nonneg {m n : Nat} : 0 ≤ cmpZ m n ↔ n ≤ m := by unfold cmpZ; split <;> (try split) <;> omega
theorem cmpZ_zero {m n : Nat} : cmpZ m n = 0 ↔ m = n := by unfold cmpZ; split <;> (try split) <;> omega

/-- The length of a number in bits. -/
def bl (n : Nat) : Nat := if n = 0 then 0 else Nat.log2 n + 1

theorem bl_zero : bl 0 = 0 := rfl
theorem bl_pos {n : Nat} (h : n ≠ 0) : 0 < bl n := by simp [bl, h]
theorem bl_eq_zero {n : Nat} : bl n = 0 ↔ n = 0 := by unfold bl; split <;> simp_all
theorem lt_two_bl (n : Nat) : n < 2 ^ bl n := by
  unfold bl; split
  · subst_vars; simp
  · exact Nat.lt_log2_self
theorem two_bl_le {n : Nat} (h : n ≠ 0) : 2 ^ (bl n - 1) ≤ n := by
  simp only [bl, h, if_false, Nat.add_sub_cancel]
  exact Nat.log2_self_le h
theorem bl_unique {n k : Nat} (h1 : n < 2 ^ k) (h2 : k = 0 ∨ 2 ^ (k - 1) ≤ n) : bl n = k := by
  rcases Nat.eq_zero_or_pos n with rfl | hn
  · rcases h2 with rfl | h2
    · rfl
    · have := Nat.two_pow_pos (k - 1); omega
  · have a1 := lt_two_bl n
    have a2 := two_bl_le (n := n) (by omega)
    rcases Nat.lt_trichotomy (bl n) k with h | h | h
    · rcases h2 with rfl | h2
      · omega
      · have := Nat.pow_le_pow_right (n := 2) (by omega) (show bl n ≤ k - 1 by omega); omega
    · exact h
    · have := Nat.pow_le_pow_right (n := 2) (by omega) (show k ≤ bl n - 1 by omega); omega
theorem bl_le {n k : Nat} (h : n < 2 ^ k) : bl n ≤ k := by
  rcases Nat.eq_zero_or_pos n with rfl | hn
  · simp [bl_zero]
  · rcases Nat.lt_or_ge k (bl n) with h1 | h1
    · have a2 := two_bl_le (n := n) (by omega)
      have := Nat.pow_le_pow_right (n := 2) (by omega) (show k ≤ bl n - 1 by omega); omega
    · exact h1
theorem bl_shift {n s : Nat} (h : n / 2 ^ s ≠ 0) : bl n = s + bl (n / 2 ^ s) := by
  have a1 := lt_two_bl (n / 2 ^ s)
  have a2 := two_bl_le h
  have a3 := bl_pos h
  apply bl_unique
  · rw [Nat.pow_add, Nat.mul_comm]
    exact (Nat.div_lt_iff_lt_mul (Nat.two_pow_pos s)).1 a1
  · right
    rw [show s + bl (n / 2 ^ s) - 1 = bl (n / 2 ^ s) - 1 + s by omega, Nat.pow_add]
    exact (Nat.le_div_iff_mul_le (Nat.two_pow_pos s)).1 a2
theorem bl_small {n : Nat} (h : n < 2) : bl n = n := by
  rcases (show n = 0 ∨ n = 1 by omega) with rfl | rfl <;> rfl
theorem bl_mono {m n : Nat} (h : m ≤ n) : bl m ≤ bl n := bl_le (Nat.lt_of_le_of_lt h (lt_two_bl n))

/-- The length in bits by the highest digit that is not 0. -/
theorem bl_dv {s : Nat} (xs : List Nat) (h : Ds (2 ^ s) xs) (i : Nat) (hz : ∀ j, i < j → xs.getD j 0 = 0) (hi : xs.getD i 0 ≠ 0) : bl (dv (2 ^ s) xs) = s * i + bl (xs.getD i 0) := by
  have hlt : i < xs.length := by
    rcases Nat.lt_or_ge i xs.length with h | h
    · exact h
    · exfalso; apply hi; simp [List.getD, show ¬ i < xs.length by omega]
  have e : dv (2 ^ s) xs = dv (2 ^ s) (xs.take i) + (2 ^ s) ^ i * xs.getD i 0 := by
    rw [dv_take_drop (2 ^ s) xs i (by omega), dv_tail (2 ^ s) (xs.drop i)]
    have e1 : (xs.drop i).getD 0 0 = xs.getD i 0 := by simp [List.getD]
    have e2 : dv (2 ^ s) (xs.drop i).tail = 0 := by
      rw [dv_eq_zero (Nat.two_pow_pos s)]
      intro x hx
      obtain ⟨j, hj, rfl⟩ := List.getElem_of_mem hx
      have := hz (i + (j + 1)) (by omega)
      simp at hj
      simp only [List.getElem_tail, List.getElem_drop]
      simpa [List.getD, show i + (j + 1) < xs.length by omega] using this
    rw [e1, e2]; simp
  have h1 := dv_lt (xs.take i) (h.take i)
  rw [List.length_take, Nat.min_eq_left (by omega)] at h1
  have e3 : dv (2 ^ s) xs / 2 ^ (s * i) = xs.getD i 0 := by
    rw [e, Nat.pow_mul, Nat.add_mul_div_left _ _ (Nat.pow_pos (Nat.two_pow_pos s)), Nat.div_eq_of_lt h1, Nat.zero_add]
  rw [bl_shift (s := s * i) (by rw [e3]; exact hi), e3]

end Go.Proofs.YthlpfhenaakljaaGreatDoor.Dg

namespace Go.Proofs.YthlpfhenaakljaaGreatDoor.Dg

theorem dv_take_succ (b : Nat) (xs : List Nat) (k : Nat) : dv b (xs.take (k + 1)) = dv b (xs.take k) + b ^ k * xs.getD k 0 := by
  by_cases hk : k < xs.length
  · rw [List.take_succ_eq_append_getElem hk, dv_append, List.length_take, Nat.min_eq_left (by omega)]
    simp [dv, List.getD, hk]
  · rw [List.take_of_length_le (by omega), List.take_of_length_le (by omega)]
    simp [List.getD, hk]

/-- After k rounds of a sum. -/
def AddAt (b : Nat) (xs ys : List Nat) (k : Nat) (ds : List Nat) (c : Nat) : Prop :=
  ds.length = k ∧ Ds b ds ∧ c ≤ 1 ∧ dv b ds + b ^ k * c = dv b (xs.take k) + dv b (ys.take k)

theorem AddAt.start (b : Nat) (xs ys : List Nat) : AddAt b xs ys 0 [] 0 := ⟨rfl, Ds.nil b, by omega, by simp [dv]⟩

theorem AddAt.step {b : Nat} (hb : 2 ≤ b) {xs ys : List Nat} (hx : Ds b xs) (hy : Ds b ys) {k : Nat} {ds : List Nat} {c : Nat} (h : AddAt b xs ys k ds c) :
    AddAt b xs ys (k + 1) (ds ++ [(xs.getD k 0 + ys.getD k 0 + min c 1) % b]) ((xs.getD k 0 + ys.getD k 0 + min c 1) / b) := by
  obtain ⟨h1, h2, h3, h4⟩ := h
  have hxk := Ds.getD (by omega : 0 < b) hx k
  have hyk := Ds.getD (by omega : 0 < b) hy k
  rw [Nat.min_eq_left h3]
  refine ⟨by simp [h1], h2.append (fun x hx => ?_), ?_, ?_⟩
  · rw [List.mem_singleton] at hx
    rw [hx]; exact Nat.mod_lt _ (by omega)
  · have : (xs.getD k 0 + ys.getD k 0 + c) / b < 2 := by
      rw [Nat.div_lt_iff_lt_mul (by omega)]; omega
    omega
  · rw [dv_append, h1, dv_take_succ, dv_take_succ]
    simp only [dv, Nat.mul_zero, Nat.add_zero]
    have e := Nat.div_add_mod (xs.getD k 0 + ys.getD k 0 + c) b
    generalize (xs.getD k 0 + ys.getD k 0 + c) % b = r at *
    generalize (xs.getD k 0 + ys.getD k 0 + c) / b = q at *
    generalize xs.getD k 0 = x at *
    generalize ys.getD k 0 = y at *
    rw [Nat.pow_succ, Nat.mul_assoc, Nat.add_assoc, ← Nat.mul_add, show r + b * q = x + y + c by omega, Nat.mul_add, Nat.mul_add]
    omega

theorem AddAt.done {b : Nat} (hb : 2 ≤ b) {xs ys : List Nat} (hx : Ds b xs) (hy : Ds b ys) {k : Nat} {ds : List Nat} {c : Nat} (h : AddAt b xs ys k ds c) (h1 : xs.length < k) (h2 : ys.length < k) :
    dv b ds = dv b xs + dv b ys := by
  obtain ⟨e1, e2, e3, e4⟩ := h
  rw [List.take_of_length_le (by omega), List.take_of_length_le (by omega)] at e4
  have p1 := dv_lt xs hx
  have p2 := dv_lt ys hy
  obtain ⟨m, rfl⟩ : ∃ m, k = m + 1 := ⟨k - 1, by omega⟩
  have q1 : b ^ xs.length ≤ b ^ m := Nat.pow_le_pow_right (by omega) (by omega)
  have q2 : b ^ ys.length ≤ b ^ m := Nat.pow_le_pow_right (by omega) (by omega)
  have q3 : b ^ m * 2 ≤ b ^ (m + 1) := by rw [Nat.pow_succ]; exact Nat.mul_le_mul_left _ hb
  rcases (show c = 0 ∨ c = 1 by omega) with rfl | rfl
  · simpa using e4
  · rw [Nat.mul_one] at e4; omega

/-- After k rounds of a difference. -/
def SubAt (b : Nat) (xs ys : List Nat) (k : Nat) (ds : List Nat) (c : Nat) : Prop :=
  ds.length = k ∧ Ds b ds ∧ c ≤ 1 ∧ dv b ds + dv b (ys.take k) = dv b (xs.take k) + b ^ k * c

theorem SubAt.start (b : Nat) (xs ys : List Nat) : SubAt b xs ys 0 [] 0 := ⟨rfl, Ds.nil b, by omega, by simp [dv]⟩

theorem SubAt.step {b : Nat} (hb : 2 ≤ b) {xs ys : List Nat} (hx : Ds b xs) (hy : Ds b ys) {k : Nat} {ds : List Nat} {c : Nat} (h : SubAt b xs ys k ds c) :
    SubAt b xs ys (k + 1) (ds ++ [(xs.getD k 0 + b - ys.getD k 0 - min c 1) % b]) (if xs.getD k 0 < ys.getD k 0 + min c 1 then 1 else 0) := by
  obtain ⟨h1, h2, h3, h4⟩ := h
  have hxk := Ds.getD (by omega : 0 < b) hx k
  have hyk := Ds.getD (by omega : 0 < b) hy k
  rw [Nat.min_eq_left h3]
  refine ⟨by simp [h1], h2.append (fun x hx => ?_), by split <;> omega, ?_⟩
  · rw [List.mem_singleton] at hx
    rw [hx]; exact Nat.mod_lt _ (by omega)
  · rw [dv_append, h1, dv_take_succ, dv_take_succ]
    simp only [dv, Nat.mul_zero, Nat.add_zero]
    generalize xs.getD k 0 = x at *
    generalize ys.getD k 0 = y at *
    have e : (x + b - y - c) % b + y + c = x + b * (if x < y + c then 1 else 0) := by
      split
      · rw [Nat.mod_eq_of_lt (by omega)]; omega
      · rw [show x + b - y - c = (x - y - c) + b by omega, Nat.add_mod_right, Nat.mod_eq_of_lt (by omega)]; omega
    generalize (x + b - y - c) % b = r at *
    generalize (if x < y + c then 1 else 0) = q at *
    have e' : b ^ k * (r + y + c) = b ^ k * (x + b * q) := by rw [e]
    rw [Nat.mul_add, Nat.mul_add, Nat.mul_add] at e'
    rw [Nat.pow_succ, Nat.mul_assoc]
    omega

theorem SubAt.done {b : Nat} (_hb : 2 ≤ b) {xs ys : List Nat} {k : Nat} {ds : List Nat} {c : Nat} (h : SubAt b xs ys k ds c) (h1 : xs.length ≤ k) (h2 : ys.length ≤ k) (hle : dv b ys ≤ dv b xs) :
    dv b ds = dv b xs - dv b ys := by
  obtain ⟨e1, e2, e3, e4⟩ := h
  rw [List.take_of_length_le (by omega), List.take_of_length_le (by omega)] at e4
  have p1 := dv_lt ds e2
  rw [e1] at p1
  rcases (show c = 0 ∨ c = 1 by omega) with rfl | rfl
  · rw [Nat.mul_zero] at e4; omega
  · rw [Nat.mul_one] at e4; omega

end Go.Proofs.YthlpfhenaakljaaGreatDoor.Dg

namespace Go.Proofs.YthlpfhenaakljaaGreatDoor.Dg

/-- One step of a product: the new digit and what is carried. -/
theorem mul_step {b x y o v : Nat} (hb : 2 ≤ b) (hx : x < b) (hy : y < b) (ho : o < b) (hv : v < b) :
    let p := x * y / b
    let q := x * y % b
    let l1 := (q + o) % b
    let c1 := (q + o) / b
    let l2 := (l1 + v) % b
    let c2 := (l1 + v) / b
    p + c1 < b ∧ p + c1 + c2 < b ∧ l2 < b ∧ l2 + b * (p + c1 + c2) = x * y + o + v := by
  intro p q l1 c1 l2 c2
  have e1 : b * p + q = x * y := Nat.div_add_mod _ _
  have e2 : b * c1 + l1 = q + o := Nat.div_add_mod _ _
  have e3 : b * c2 + l2 = l1 + v := Nat.div_add_mod _ _
  have hl2 : l2 < b := Nat.mod_lt _ (by omega)
  clear_value p q l1 c1 l2 c2
  have tot : l2 + b * (p + c1 + c2) = x * y + o + v := by
    rw [Nat.mul_add, Nat.mul_add]; omega
  have hmax : x * y + o + v < b * b := by
    have h1 : x * y ≤ (b - 1) * (b - 1) := Nat.mul_le_mul (by omega) (by omega)
    obtain ⟨d, rfl⟩ : ∃ d, b = d + 1 := ⟨b - 1, by omega⟩
    have h2 : (d + 1) * (d + 1) = d * d + 2 * d + 1 := by
      rw [Nat.add_mul, Nat.mul_add]; omega
    simp only [Nat.add_sub_cancel] at h1
    omega
  have hs : p + c1 + c2 < b := by
    rcases Nat.lt_or_ge (p + c1 + c2) b with h | h
    · exact h
    · have := Nat.mul_le_mul_left b h
      omega
  exact ⟨by omega, hs, hl2, tot⟩

/-- The outer round of a product. -/
def MulAt (b : Nat) (xs ys : List Nat) (i : Nat) (ds : List Nat) : Prop :=
  ds.length = xs.length + ys.length ∧ Ds b ds ∧ (∀ j, i + ys.length ≤ j → ds.getD j 0 = 0) ∧ dv b ds = dv b (xs.take i) * dv b ys

/-- The inner round: what has been added; the carry stands beside. -/
def MulIn (b : Nat) (xs ys : List Nat) (i k : Nat) (ds : List Nat) (o : Nat) : Prop :=
  ds.length = xs.length + ys.length ∧ Ds b ds ∧ (∀ j, i + ys.length ≤ j → ds.getD j 0 = 0) ∧ o < b ∧
  dv b ds + b ^ (i + k) * o = dv b (xs.take i) * dv b ys + b ^ i * (xs.getD i 0 * dv b (ys.take k))

theorem MulAt.start {b : Nat} (hb : 0 < b) (xs ys : List Nat) : MulAt b xs ys 0 (List.replicate (xs.length + ys.length) 0) := by
  refine ⟨by simp, fun x hx => ?_, fun j _ => ?_, ?_⟩
  · rw [List.eq_of_mem_replicate hx]; exact hb
  · by_cases h : j < xs.length + ys.length <;> simp [List.getD, h]
  · rw [dv_replicate_zero]; simp [dv]

theorem MulAt.inner {b : Nat} (hb : 0 < b) {xs ys : List Nat} {i : Nat} {ds : List Nat} (h : MulAt b xs ys i ds) : MulIn b xs ys i 0 ds 0 := by
  obtain ⟨h1, h2, h3, h4⟩ := h
  exact ⟨h1, h2, h3, hb, by simp [dv, h4]⟩

theorem Ds.set {b : Nat} {xs : List Nat} (h : Ds b xs) (i : Nat) {v : Nat} (hv : v < b) : Ds b (xs.set i v) := fun x hx => by
  rcases List.mem_or_eq_of_mem_set hx with h1 | rfl
  · exact h x h1
  · exact hv

theorem getD_set_ne (xs : List Nat) (i j v : Nat) (h : i ≠ j) : (xs.set i v).getD j 0 = xs.getD j 0 := by
  simp [List.getD, List.getElem?_set_ne h]

theorem MulIn.step {b : Nat} (_hb : 2 ≤ b) {xs ys : List Nat} {i k : Nat} {ds : List Nat} {o l o' : Nat} (hi : i < xs.length) (hk : k < ys.length)
    (h : MulIn b xs ys i k ds o) (hl : l < b) (ho' : o' < b) (e : l + b * o' = xs.getD i 0 * ys.getD k 0 + o + ds.getD (i + k) 0) :
    MulIn b xs ys i (k + 1) (ds.set (i + k) l) o' := by
  obtain ⟨h1, h2, h3, h4, h5⟩ := h
  refine ⟨by simp [h1], h2.set _ hl, fun j hj => by rw [getD_set_ne _ _ _ _ (by omega)]; exact h3 j hj, ho', ?_⟩
  have hs := dv_set (b := b) ds (i + k) l (by omega)
  rw [dv_take_succ]
  generalize xs.getD i 0 = x at *
  generalize ys.getD k 0 = y at *
  generalize ds.getD (i + k) 0 = v at *
  have e2 : b ^ (i + k) * (l + b * o') = b ^ (i + k) * (x * y + o + v) := by rw [e]
  rw [Nat.mul_add, Nat.mul_add, Nat.mul_add] at e2
  have e3 : b ^ (i + (k + 1)) * o' = b ^ (i + k) * (b * o') := by rw [← Nat.add_assoc, Nat.pow_succ, Nat.mul_assoc]
  have e4 : b ^ i * (x * (dv b (ys.take k) + b ^ k * y)) = b ^ i * (x * dv b (ys.take k)) + b ^ (i + k) * (x * y) := by
    rw [Nat.mul_add, Nat.mul_add, Nat.pow_add]
    congr 1
    rw [Nat.mul_assoc, Nat.mul_left_comm x]
  rw [e3, e4]
  omega

theorem MulIn.done {b : Nat} (_hb : 2 ≤ b) {xs ys : List Nat} {i : Nat} {ds : List Nat} {o : Nat} (hi : i < xs.length)
    (h : MulIn b xs ys i ys.length ds o) : MulAt b xs ys (i + 1) (ds.set (i + ys.length) o) := by
  obtain ⟨h1, h2, h3, h4, h5⟩ := h
  refine ⟨by simp [h1], h2.set _ h4, fun j hj => by rw [getD_set_ne _ _ _ _ (by omega)]; exact h3 j (by omega), ?_⟩
  have hs := dv_set (b := b) ds (i + ys.length) o (by omega)
  rw [h3 _ (Nat.le_refl _), Nat.mul_zero, Nat.add_zero] at hs
  rw [hs, h5, List.take_length, dv_take_succ, Nat.add_mul, Nat.mul_assoc]

end Go.Proofs.YthlpfhenaakljaaGreatDoor.Dg

namespace Go.Proofs.YthlpfhenaakljaaGreatDoor.Dg

theorem shr_core {a c x y z : Nat} (ha : 0 < a) (hx : x < a * c) : ((x + a * c * (y + a * c * z)) / a) % (a * c) = x / a + (y * c) % (a * c) ∧ x / a < c ∧ (y * c) % (a * c) = c * (y % a) := by
  have h1 : x / a < c := (Nat.div_lt_iff_lt_mul ha).2 (by rw [Nat.mul_comm]; exact hx)
  have h2 : (y * c) % (a * c) = c * (y % a) := by rw [Nat.mul_mod_mul_right, Nat.mul_comm]
  refine ⟨?_, h1, h2⟩
  rw [Nat.mul_assoc a c, Nat.add_mul_div_left _ _ ha, Nat.mul_add, h2]
  have e : c * y = c * (y % a) + a * c * (y / a) := by
    have := Nat.div_add_mod y a
    have h3 : c * (a * (y / a) + y % a) = c * y := by rw [this]
    rw [Nat.mul_add] at h3
    have h4 : c * (a * (y / a)) = a * c * (y / a) := by rw [← Nat.mul_assoc, Nat.mul_comm c a]
    omega
  have e2 : c * (a * c * z) = a * c * (c * z) := by rw [Nat.mul_left_comm]
  rw [e, e2]
  rw [show x / a + (c * (y % a) + a * c * (y / a) + a * c * (c * z)) = (x / a + c * (y % a)) + a * c * (y / a + c * z) by rw [Nat.mul_add]; omega, Nat.add_mul_mod_self_left]
  apply Nat.mod_eq_of_lt
  have h5 : y % a < a := Nat.mod_lt _ ha
  have h6 : c * (y % a + 1) ≤ c * a := Nat.mul_le_mul_left c h5
  rw [Nat.mul_add, Nat.mul_one, Nat.mul_comm c a] at h6
  omega

theorem or_add {x y c : Nat} {s : Nat} (hc : c = 2 ^ s) (hx : x < c) : x ||| (c * y) = x + c * y := by
  subst hc
  rw [Nat.or_comm, ← Nat.two_pow_add_eq_or_of_lt hx, Nat.add_comm]

/-- The limb that begins at a place: by the two limbs that it stands in. -/
theorem shr_limb {V m x y : Nat} (hx : x = V / (2 ^ 64) ^ (m / 64) % 2 ^ 64) (hy : y = V / (2 ^ 64) ^ (m / 64 + 1) % 2 ^ 64) (hr : 0 < m % 64) :
    V / 2 ^ m % 2 ^ 64 = (x / 2 ^ (m % 64)) ||| ((y * 2 ^ (64 - m % 64)) % 2 ^ 64) := by
  have hp : (2 : Nat) ^ (m % 64) * 2 ^ (64 - m % 64) = 2 ^ 64 := by rw [← Nat.pow_add]; congr 1; omega
  have e1 : V / 2 ^ m = V / (2 ^ 64) ^ (m / 64) / 2 ^ (m % 64) := by
    rw [Nat.div_div_eq_div_mul, ← Nat.pow_mul, ← Nat.pow_add]; congr 2; omega
  rw [Nat.pow_succ, ← Nat.div_div_eq_div_mul] at hy
  rw [e1]
  generalize V / (2 ^ 64) ^ (m / 64) = U at *
  have e2 : U = x + 2 ^ (m % 64) * 2 ^ (64 - m % 64) * (y + 2 ^ (m % 64) * 2 ^ (64 - m % 64) * (U / 2 ^ 64 / 2 ^ 64)) := by
    rw [hp, hx, hy]
    have h1 := Nat.div_add_mod U (2 ^ 64)
    have h2 := Nat.div_add_mod (U / 2 ^ 64) (2 ^ 64)
    omega
  have hlt : x < 2 ^ (m % 64) * 2 ^ (64 - m % 64) := by rw [hp, hx]; exact Nat.mod_lt _ (by decide)
  obtain ⟨h1, h2, h3⟩ := shr_core (a := 2 ^ (m % 64)) (c := 2 ^ (64 - m % 64)) (y := y) (z := U / 2 ^ 64 / 2 ^ 64) (Nat.two_pow_pos _) hlt
  rw [← e2, hp] at h1
  rw [hp] at h3
  rw [h1, h3, or_add rfl h2]

theorem shr_limb0 {V m x : Nat} (hx : x = V / (2 ^ 64) ^ (m / 64) % 2 ^ 64) (hr : m % 64 = 0) : V / 2 ^ m % 2 ^ 64 = x := by
  rw [hx, ← Nat.pow_mul]; congr 3; omega

theorem shl_limb {V m : Nat} (_h : m < 64) : V * 2 ^ m % 2 ^ 64 = (V % 2 ^ 64) * 2 ^ m % 2 ^ 64 := by
  rw [Nat.mul_mod (V % 2 ^ 64), Nat.mod_mod, ← Nat.mul_mod]
theorem shl_limb0 {V m : Nat} (h : 64 ≤ m) : V * 2 ^ m % 2 ^ 64 = 0 := by
  obtain ⟨k, rfl⟩ : ∃ k, m = k + 64 := ⟨m - 64, by omega⟩
  rw [Nat.pow_add, ← Nat.mul_assoc]; exact Nat.mul_mod_left _ _

end Go.Proofs.YthlpfhenaakljaaGreatDoor.Dg

namespace Go.Proofs.YthlpfhenaakljaaGreatDoor.Dg

/-- What the corrections of an estimate keep: 'q' is the estimate, 'r' what is left of the high part. -/
def Est (b y1 y0 u u1 q r : Nat) : Prop := q * y1 + r = u ∧ (u * b + u1) / (y1 * b + y0) ≤ q ∧ q ≤ b + 1

theorem Est.start {b y1 y0 u u1 : Nat} (hy : b ≤ 2 * y1) (hb : 0 < b) (hy0 : y0 < b) (hu1 : u1 < b) (hu : u < y1 * b + y0) : Est b y1 y0 u u1 (u / y1) (u - u / y1 * y1) := by
  have hy1 : 0 < y1 := by omega
  have e := Nat.div_add_mod u y1
  rw [Nat.mul_comm] at e
  refine ⟨by omega, ?_, ?_⟩
  · apply Nat.le_of_lt_succ
    rw [Nat.div_lt_iff_lt_mul (by have : 0 < y1 * b := Nat.mul_pos hy1 hb; omega)]
    have h1 : u < (u / y1 + 1) * y1 := by have := Nat.mod_lt u hy1; rw [Nat.add_mul, Nat.one_mul]; omega
    have h2 : (u + 1) * b ≤ (u / y1 + 1) * y1 * b := Nat.mul_le_mul_right b h1
    rw [Nat.add_mul, Nat.one_mul] at h2
    have h3 : (u / y1 + 1) * (y1 * b + y0) = (u / y1 + 1) * y1 * b + (u / y1 + 1) * y0 := by rw [Nat.mul_add, Nat.mul_assoc]
    rw [Nat.succ_eq_add_one, h3]
    omega
  · apply Nat.le_of_lt_succ
    rw [Nat.div_lt_iff_lt_mul hy1, Nat.succ_eq_add_one]
    have h1 : (b + 1 + 1) * y1 = b * y1 + 2 * y1 := by rw [Nat.add_mul, Nat.add_mul]; omega
    rw [h1, Nat.mul_comm b y1]; omega

theorem Est.true_lt {b y1 y0 u u1 : Nat} (hu1 : u1 < b) (hu : u < y1 * b + y0) : (u * b + u1) / (y1 * b + y0) < b := by
  rw [Nat.div_lt_iff_lt_mul (by omega)]
  have : (u + 1) * b ≤ (y1 * b + y0) * b := Nat.mul_le_mul_right b hu
  rw [Nat.add_mul, Nat.one_mul] at this
  rw [Nat.mul_comm b]; omega

/-- The test for one more correction. -/
theorem Est.more {b y1 y0 u u1 q r : Nat} (h : Est b y1 y0 u u1 q r) (hy : 0 < y1) (hb : 0 < b) (hu1 : u1 < b) (hu : u < y1 * b + y0) (hm : b ≤ q ∨ b * r + u1 < q * y0) : Est b y1 y0 u u1 (q - 1) (r + y1) ∧ 0 < q := by
  obtain ⟨h1, h2, h3⟩ := h
  have hlt : (u * b + u1) / (y1 * b + y0) < q := by
    rcases hm with hm | hm
    · exact Nat.lt_of_lt_of_le (Est.true_lt hu1 hu) hm
    · rw [Nat.div_lt_iff_lt_mul (by have : 0 < y1 * b := Nat.mul_pos hy hb; omega)]
      have e : q * (y1 * b + y0) = q * y1 * b + q * y0 := by rw [Nat.mul_add, Nat.mul_assoc]
      have e2 : (q * y1 + r) * b = q * y1 * b + b * r := by rw [Nat.add_mul, Nat.mul_comm r b]
      rw [e, ← h1, e2]; omega
  have hq : 0 < q := Nat.lt_of_le_of_lt (Nat.zero_le _) hlt
  obtain ⟨p, rfl⟩ : ∃ p, q = p + 1 := ⟨q - 1, by omega⟩
  refine ⟨⟨?_, Nat.le_of_lt_succ hlt, by omega⟩, hq⟩
  rw [Nat.add_sub_cancel, ← h1, Nat.add_mul]; omega

/-- No more correction: the estimate is the quotient. -/
theorem Est.fits {b y1 y0 u u1 q r : Nat} (h : Est b y1 y0 u u1 q r) (hy : 0 < y1) (hb : 0 < b) (hm : q * y0 ≤ b * r + u1) : q = (u * b + u1) / (y1 * b + y0) := by
  obtain ⟨h1, h2, h3⟩ := h
  apply Nat.le_antisymm _ h2
  rw [Nat.le_div_iff_mul_le (by have : 0 < y1 * b := Nat.mul_pos hy hb; omega)]
  have e : q * (y1 * b + y0) = q * y1 * b + q * y0 := by rw [Nat.mul_add, Nat.mul_assoc]
  have e2 : (q * y1 + r) * b = q * y1 * b + b * r := by rw [Nat.add_mul, Nat.mul_comm r b]
  rw [e, ← h1, e2]; omega
theorem Est.broke {b y1 y0 u u1 q r : Nat} (h : Est b y1 y0 u u1 q r) (hy : 0 < y1) (hb : 0 < b) (hy0 : y0 < b) (hq : q ≤ b) (hr : b ≤ r) : q = (u * b + u1) / (y1 * b + y0) := by
  refine h.fits hy hb ?_
  have h1 : q * y0 ≤ b * b := Nat.mul_le_mul hq (by omega)
  have h2 : b * b ≤ b * r := Nat.mul_le_mul_left b hr
  omega

/-- The whole: two halves, one behind the other. -/
theorem div_two {b y N u u1 u0 q1 q0 r1 : Nat} (hy : 0 < y) (hN : N = (u * b + u1) * b + u0) (hq1 : q1 = (u * b + u1) / y) (hr1 : r1 = (u * b + u1) % y) (hq0 : q0 = (r1 * b + u0) / y) (_hu0 : u0 < b) (_hb : 0 < b) :
    q1 * b + q0 = N / y ∧ (r1 * b + u0) % y = N % y := by
  have e1 := Nat.div_add_mod (u * b + u1) y
  rw [← hq1, ← hr1] at e1
  have e2 : N = r1 * b + u0 + y * (q1 * b) := by
    rw [hN, ← e1, Nat.add_mul, Nat.mul_assoc]; omega
  constructor
  · rw [e2, Nat.add_mul_div_left _ _ hy, ← hq0, Nat.add_comm]
  · rw [e2, Nat.add_mul_mod_self_left]

/-- A shifted division. -/
theorem div_shift {N y s : Nat} (_hy : 0 < y) : (N * 2 ^ s) / (y * 2 ^ s) = N / y ∧ (N * 2 ^ s) % (y * 2 ^ s) / 2 ^ s = N % y := by
  refine ⟨Nat.mul_div_mul_right _ _ (Nat.two_pow_pos s), ?_⟩
  rw [Nat.mul_mod_mul_right, Nat.mul_div_cancel _ (Nat.two_pow_pos s)]

/-- The high half of a shifted pair of words. -/
theorem shl_pair {hi lo s : Nat} (hs : s ≤ 64) (hlo : lo < 2 ^ 64) (_hhi : hi * 2 ^ s < 2 ^ 64) :
    (hi * 2 ^ s) ||| (lo / 2 ^ (64 - s)) = hi * 2 ^ s + lo / 2 ^ (64 - s) ∧
    (hi * 2 ^ 64 + lo) * 2 ^ s = (hi * 2 ^ s + lo / 2 ^ (64 - s)) * 2 ^ 64 + lo * 2 ^ s % 2 ^ 64 := by
  have hp : (2 : Nat) ^ 64 = 2 ^ (64 - s) * 2 ^ s := by rw [← Nat.pow_add]; congr 1; omega
  have h1 : lo / 2 ^ (64 - s) < 2 ^ s := by rw [Nat.div_lt_iff_lt_mul (Nat.two_pow_pos _), Nat.mul_comm, ← hp]; exact hlo
  refine ⟨?_, ?_⟩
  · rw [Nat.or_comm, Nat.mul_comm, or_add rfl h1, Nat.add_comm]
  · have e := Nat.div_add_mod (lo * 2 ^ s) (2 ^ 64)
    have e2 : lo * 2 ^ s / 2 ^ 64 = lo / 2 ^ (64 - s) := by
      rw [hp]; exact Nat.mul_div_mul_right _ _ (Nat.two_pow_pos s)
    rw [e2] at e
    rw [Nat.add_mul, Nat.add_mul, Nat.add_assoc, Nat.mul_comm (lo / _), e, Nat.mul_right_comm]

end Go.Proofs.YthlpfhenaakljaaGreatDoor.Dg

namespace Go.Proofs.YthlpfhenaakljaaGreatDoor.Dg

/-- After k rounds of the taking away of ds times q from p. -/
def TakeAt (b : Nat) (p ds : List Nat) (q k : Nat) (ns : List Nat) (o br : Nat) : Prop :=
  ns.length = k ∧ Ds b ns ∧ o < b ∧ br ≤ 1 ∧ dv b ns + q * dv b (ds.take k) = dv b (p.take k) + b ^ k * (o + br)

theorem TakeAt.start {b : Nat} (hb : 2 ≤ b) (p ds : List Nat) (q : Nat) : TakeAt b p ds q 0 [] 0 0 := ⟨rfl, Ds.nil b, by omega, by omega, by simp [dv]⟩

theorem sub_step {b a l br : Nat} (hb : 2 ≤ b) (ha : a < b) (hl : l < b) (hbr : br ≤ 1) :
    (a + b - l - min br 1) % b < b ∧ (if a < l + min br 1 then 1 else 0) ≤ 1 ∧ (a + b - l - min br 1) % b + l + br = a + b * (if a < l + min br 1 then 1 else 0) := by
  rw [Nat.min_eq_left hbr]
  refine ⟨Nat.mod_lt _ (by omega), by split <;> omega, ?_⟩
  split
  · rw [Nat.mod_eq_of_lt (by omega)]; omega
  · rw [show a + b - l - br = (a - l - br) + b by omega, Nat.add_mod_right, Nat.mod_eq_of_lt (by omega)]; omega

theorem take_arith (nk q x a o br n br' b l c1 h pb D T low : Nat) (h0 : nk + q * D = T + pb * (o + br)) (hx : b * h + low = x * q) (h1 : b * c1 + l = low + o) (h2 : n + l + br = a + b * br') :
    nk + pb * n + q * (D + pb * x) = (T + pb * a) + pb * b * (h + c1 + br') := by grind
theorem take_arith' (nk q a o br n br' b pb D T : Nat) (h0 : nk + q * D = T + pb * (o + br)) (h2 : n + o + br = a + b * br') :
    nk + pb * n + q * D = (T + pb * a) + pb * b * br' := by grind
theorem next_arith (T pi v D q Q : Nat) : T + pi * (v + D * q) + D * Q = T + pi * v + D * (Q + pi * q) := by grind

theorem TakeAt.step {b : Nat} (hb : 2 ≤ b) {p ds : List Nat} {q k : Nat} {ns : List Nat} {o br : Nat} (hp : Ds b p) (hd : Ds b ds) (hq : q < b) (h : TakeAt b p ds q k ns o br) :
    ds.getD k 0 * q / b + (ds.getD k 0 * q % b + o) / b < b ∧
    TakeAt b p ds q (k + 1) (ns ++ [(p.getD k 0 + b - (ds.getD k 0 * q % b + o) % b - min br 1) % b]) (ds.getD k 0 * q / b + (ds.getD k 0 * q % b + o) / b)
      (if p.getD k 0 < (ds.getD k 0 * q % b + o) % b + min br 1 then 1 else 0) := by
  obtain ⟨h1, h2, h3, h4, h5⟩ := h
  have hx := Ds.getD (by omega : 0 < b) hd k
  have ha := Ds.getD (by omega : 0 < b) hp k
  obtain ⟨m1, _, _, _⟩ := mul_step hb hx hq h3 (v := 0) (by omega)
  obtain ⟨s1, s2, s3⟩ := sub_step hb ha (Nat.mod_lt (ds.getD k 0 * q % b + o) (by omega : 0 < b)) h4
  refine ⟨m1, by simp [h1], h2.append (fun x hx => ?_), m1, s2, ?_⟩
  · rw [List.mem_singleton] at hx; rw [hx]; exact s1
  · rw [dv_append, h1, dv_take_succ, dv_take_succ]
    simp only [dv, Nat.mul_zero, Nat.add_zero]
    have e1 := Nat.div_add_mod (ds.getD k 0 * q) b
    have e2 := Nat.div_add_mod (ds.getD k 0 * q % b + o) b
    generalize (p.getD k 0 + b - (ds.getD k 0 * q % b + o) % b - min br 1) % b = n at *
    generalize (if p.getD k 0 < (ds.getD k 0 * q % b + o) % b + min br 1 then 1 else 0) = br' at *
    generalize (ds.getD k 0 * q % b + o) / b = c1 at *
    generalize (ds.getD k 0 * q % b + o) % b = l at *
    generalize ds.getD k 0 * q % b = low at *
    generalize ds.getD k 0 * q / b = hi at *
    rw [Nat.pow_succ]
    exact take_arith _ _ _ _ _ _ _ _ _ _ _ _ _ _ _ _ h5 e1 e2 s3

theorem TakeAt.done {b : Nat} (hb : 2 ≤ b) {p ds : List Nat} {q k : Nat} {ns : List Nat} {o br : Nat} (hp : Ds b p) (hk : k = ds.length) (hl : p.length = k + 1) (h : TakeAt b p ds q k ns o br) :
    (ns ++ [(p.getD k 0 + b - o - min br 1) % b]).length = k + 1 ∧ Ds b (ns ++ [(p.getD k 0 + b - o - min br 1) % b]) ∧ (if p.getD k 0 < o + min br 1 then 1 else 0) ≤ 1 ∧
    dv b (ns ++ [(p.getD k 0 + b - o - min br 1) % b]) + q * dv b ds = dv b p + b ^ p.length * (if p.getD k 0 < o + min br 1 then 1 else 0) := by
  obtain ⟨h1, h2, h3, h4, h5⟩ := h
  have ha := Ds.getD (by omega : 0 < b) hp k
  obtain ⟨s1, s2, s3⟩ := sub_step hb ha h3 h4
  refine ⟨by simp [h1], h2.append (fun x hx => ?_), s2, ?_⟩
  · rw [List.mem_singleton] at hx; rw [hx]; exact s1
  · have e : dv b p = dv b (p.take k) + b ^ k * p.getD k 0 := by rw [← dv_take_succ, List.take_of_length_le (by omega)]
    rw [List.take_of_length_le (by omega)] at h5
    rw [dv_append, h1, e, hl, Nat.pow_succ]
    simp only [dv, Nat.mul_zero, Nat.add_zero]
    generalize (p.getD k 0 + b - o - min br 1) % b = n at *
    generalize (if p.getD k 0 < o + min br 1 then 1 else 0) = br' at *
    exact take_arith' _ _ _ _ _ _ _ _ _ _ _ h5 s3

/-- The whole giving back. -/
theorem AddAt.whole {b : Nat} {p ds ns : List Nat} {c k : Nat} (h : AddAt b p ds k ns c) (h1 : p.length = k) (h2 : ds.length ≤ k) : dv b ns + b ^ p.length * c = dv b p + dv b ds := by
  obtain ⟨_, _, _, e⟩ := h
  rw [List.take_of_length_le (by omega), List.take_of_length_le h2] at e
  rw [h1]; exact e

/-- A guess by the highest digits is not too small. -/
theorem guess_ge {b n hi lo d rest drest : Nat} (hrest : rest < b ^ n) (hd : 0 < d) {P D : Nat} (hP : P = rest + b ^ n * (lo + b * hi)) (hD : D = drest + b ^ n * d) : P / D ≤ (hi * b + lo) / d := by
  rw [Nat.le_div_iff_mul_le hd]
  have h1 : P / D * D ≤ P := Nat.div_mul_le_self P D
  generalize P / D = q at *
  apply Nat.le_of_lt_succ
  have h2 : b ^ n * (q * d) < b ^ n * (hi * b + lo + 1) := by
    subst hP hD
    have e1 : q * (drest + b ^ n * d) = q * drest + b ^ n * (q * d) := by grind
    have e2 : b ^ n * (hi * b + lo + 1) = b ^ n * (lo + b * hi) + b ^ n := by grind
    omega
  exact Nat.lt_of_mul_lt_mul_left h2

/-- One round's correction: what it keeps. 'v' is what lies in the part; 'q' is one below the last guess. -/
def TooMuch (b n P D q v : Nat) : Prop := v + D * (q + 1) = P + b ^ n ∧ P < D * (q + 1)

theorem TooMuch.of {b n P D g v : Nat} (hg : v + g * D = P + b ^ n) (hv : v < b ^ n) : 0 < g ∧ TooMuch b n P D (g - 1) v := by
  have h0 : 0 < g := by
    rcases Nat.eq_zero_or_pos g with rfl | h
    · omega
    · exact h
  refine ⟨h0, ?_, ?_⟩
  · rw [show g - 1 + 1 = g by omega, Nat.mul_comm]; exact hg
  · rw [show g - 1 + 1 = g by omega, Nat.mul_comm]; omega

theorem TooMuch.again {b n P D q v v' : Nat} (h : TooMuch b n P D q v) (hv : v' = v + D) (hlt : v' < b ^ n) : 0 < q ∧ TooMuch b n P D (q - 1) v' := by
  obtain ⟨h1, h2⟩ := h
  have e : D * (q + 1) = D * q + D := by rw [Nat.mul_add, Nat.mul_one]
  have h0 : 0 < q := by
    rcases Nat.eq_zero_or_pos q with rfl | h
    · rw [Nat.mul_zero] at e; omega
    · exact h
  refine ⟨h0, ?_, ?_⟩ <;> rw [show q - 1 + 1 = q by omega] <;> omega

theorem TooMuch.enough {b n P D q v v' : Nat} (h : TooMuch b n P D q v) (hv : v' + b ^ n = v + D) : P = v' + D * q ∧ v' < D := by
  obtain ⟨h1, h2⟩ := h
  have e : D * (q + 1) = D * q + D := by rw [Nat.mul_add, Nat.mul_one]
  omega

/-- The rounds of a long division: 'k' quotient digits are still to come. -/
def DivAt (b U D n m k : Nat) (ls qs : List Nat) : Prop :=
  ls.length = m + 1 ∧ Ds b ls ∧ qs.length = m - n + 1 ∧ Ds b qs ∧ dv b ls < D * b ^ k ∧ U = dv b ls + D * dv b qs ∧ ∀ j, j < k → qs.getD j 0 = 0

/-- A row in three parts. -/
theorem three (ls : List Nat) (i n : Nat) : ls = ls.take i ++ ((ls.drop i).take n ++ ls.drop (i + n)) := by
  rw [← List.drop_drop, List.take_append_drop, List.take_append_drop]

theorem dv_hi_zero {b : Nat} {lo p hi : List Nat} {D n : Nat} (hlt : dv b (lo ++ (p ++ hi)) < D * b ^ (lo.length + 1)) (hD : D < b ^ n) (hp : p.length = n + 1) : dv b hi = 0 := by
  rw [dv_append, dv_append, hp] at hlt
  rcases Nat.eq_zero_or_pos (dv b hi) with h | h
  · exact h
  · exfalso
    have h1 : b ^ (lo.length + (n + 1)) ≤ b ^ lo.length * (b ^ (n + 1) * dv b hi) := by
      rw [Nat.pow_add, ← Nat.mul_assoc]; exact Nat.le_mul_of_pos_right _ h
    have h2 : D * b ^ (lo.length + 1) ≤ b ^ n * b ^ (lo.length + 1) := Nat.mul_le_mul_right _ (Nat.le_of_lt hD)
    rw [← Nat.pow_add, show n + (lo.length + 1) = lo.length + (n + 1) by omega] at h2
    rw [Nat.mul_add] at hlt
    omega

/-- At a round: the part is less than b times the divisor. -/
theorem DivAt.part {b U D n m i : Nat} (_hb : 2 ≤ b) {ls qs : List Nat} (h : DivAt b U D n m (i + 1) ls qs) (hD : D < b ^ n) (hi : i + n + 1 ≤ m + 1) :
    ((ls.drop i).take (n + 1)).length = n + 1 ∧ dv b ((ls.drop i).take (n + 1)) < D * b ∧ dv b ls = dv b (ls.take i) + b ^ i * dv b ((ls.drop i).take (n + 1)) ∧ dv b (ls.drop (i + (n + 1))) = 0 := by
  obtain ⟨h1, h2, h3, h4, h5, h6, h7⟩ := h
  have hl : (ls.take i).length = i := by rw [List.length_take]; omega
  have hp : ((ls.drop i).take (n + 1)).length = n + 1 := by rw [List.length_take, List.length_drop]; omega
  have e := three ls i (n + 1)
  have hz : dv b (ls.drop (i + (n + 1))) = 0 := by
    apply dv_hi_zero (lo := ls.take i) (p := (ls.drop i).take (n + 1)) (D := D) (n := n) _ hD hp
    rw [← e, hl]; exact h5
  have hv : dv b ls = dv b (ls.take i) + b ^ i * dv b ((ls.drop i).take (n + 1)) := by
    conv => lhs; rw [e]
    rw [dv_append, dv_append, hz, hl, Nat.mul_zero, Nat.add_zero]
  refine ⟨hp, ?_, hv, hz⟩
  rw [hv, Nat.pow_succ, ← Nat.mul_assoc, Nat.mul_right_comm] at h5
  have h8 : b ^ i * dv b ((ls.drop i).take (n + 1)) < b ^ i * (D * b) := by
    have e9 : b ^ i * (D * b) = D * b * b ^ i := Nat.mul_comm _ _
    omega
  exact Nat.lt_of_mul_lt_mul_left h8

/-- A round done. -/
theorem DivAt.next {b U D n m i q : Nat} (hb : 2 ≤ b) {ls qs p' : List Nat} (h : DivAt b U D n m (i + 1) ls qs) (hD : D < b ^ n) (hi : i + n + 1 ≤ m + 1) (hp : p'.length = n + 1) (hpd : Ds b p') (hq : q < b)
    (hv : dv b ((ls.drop i).take (n + 1)) = dv b p' + D * q) (hlt : dv b p' < D) :
    DivAt b U D n m i (ls.take i ++ (p' ++ ls.drop (i + (n + 1)))) (qs.set i q) := by
  obtain ⟨g1, g2, g3, g4⟩ := h.part hb hD hi
  obtain ⟨h1, h2, h3, h4, h5, h6, h7⟩ := h
  have hl : (ls.take i).length = i := by rw [List.length_take]; omega
  have e : dv b (ls.take i ++ (p' ++ ls.drop (i + (n + 1)))) = dv b (ls.take i) + b ^ i * dv b p' := by
    rw [dv_append, dv_append, g4, hl, Nat.mul_zero, Nat.add_zero]
  refine ⟨by simp [hp]; omega, (h2.take i).append (hpd.append (h2.drop _)), by simp [h3], Ds.set h4 i hq, ?_, ?_, ?_⟩
  · rw [e]
    have k1 := dv_lt _ (h2.take i)
    rw [hl] at k1
    have k2 : b ^ i * (dv b p' + 1) ≤ b ^ i * D := Nat.mul_le_mul_left _ hlt
    rw [Nat.mul_add, Nat.mul_one] at k2
    rw [Nat.mul_comm D]
    omega
  · have hs := dv_set qs i q (b := b) (by omega)
    rw [h7 i (by omega), Nat.mul_zero, Nat.add_zero] at hs
    rw [h6, e, g3, hv, hs]
    exact next_arith _ _ _ _ _ _
  · intro j hj
    rw [getD_set_ne _ _ _ _ (by omega)]
    exact h7 j (by omega)

theorem DivAt.end' {b U D n m : Nat} {ls qs : List Nat} (h : DivAt b U D n m 0 ls qs) : dv b qs = U / D ∧ dv b ls = U % D := by
  obtain ⟨h1, h2, h3, h4, h5, h6, h7⟩ := h
  rw [Nat.pow_zero, Nat.mul_one] at h5
  rw [h6, Nat.add_mul_div_left _ _ (by omega), Nat.div_eq_of_lt h5, Nat.zero_add, Nat.add_mul_mod_self_left, Nat.mod_eq_of_lt h5]
  exact ⟨rfl, rfl⟩

/-- The rounds of a quotient by one digit. -/
def ShortAt (b : Nat) (xs : List Nat) (d k : Nat) (qs : List Nat) (r : Nat) : Prop :=
  qs.length = xs.length ∧ Ds b qs ∧ r < d ∧ (∀ j, j < k → qs.getD j 0 = 0) ∧ dv b xs = dv b (xs.take k) + b ^ k * r + d * dv b qs

theorem ShortAt.start {b : Nat} (hb : 0 < b) (xs : List Nat) {d : Nat} (hd : 0 < d) : ShortAt b xs d xs.length (List.replicate xs.length 0) 0 := by
  refine ⟨by simp, fun x hx => ?_, hd, fun j _ => ?_, ?_⟩
  · rw [List.eq_of_mem_replicate hx]; exact hb
  · by_cases h : j < xs.length <;> simp [List.getD, h]
  · rw [dv_replicate_zero]; simp

theorem short_arith (T pi b x r d q r' Q : Nat) (h : d * q + r' = r * b + x) : T + pi * x + pi * b * r + d * Q = T + pi * r' + d * (Q + pi * q) := by grind

theorem ShortAt.step {b : Nat} {xs : List Nat} {d i : Nat} {qs : List Nat} {r : Nat} (hx : Ds b xs) (h : ShortAt b xs d (i + 1) qs r) (hi : i < xs.length) (hd : 0 < d) (hb : 0 < b) :
    (r * b + xs.getD i 0) / d < b ∧ ShortAt b xs d i (qs.set i ((r * b + xs.getD i 0) / d)) ((r * b + xs.getD i 0) % d) := by
  obtain ⟨h1, h2, h3, h4, h5⟩ := h
  have hxi := Ds.getD hb hx i
  have hq : (r * b + xs.getD i 0) / d < b := by
    rw [Nat.div_lt_iff_lt_mul hd]
    have : (r + 1) * b ≤ d * b := Nat.mul_le_mul_right b h3
    rw [Nat.add_mul, Nat.one_mul] at this
    rw [Nat.mul_comm b d]; omega
  refine ⟨hq, by simp [h1], Ds.set h2 i hq, Nat.mod_lt _ hd, fun j hj => ?_, ?_⟩
  · rw [getD_set_ne _ _ _ _ (by omega)]; exact h4 j (by omega)
  · have hs := dv_set qs i ((r * b + xs.getD i 0) / d) (b := b) (by omega)
    rw [h4 i (by omega), Nat.mul_zero, Nat.add_zero] at hs
    rw [h5, hs, dv_take_succ, Nat.pow_succ]
    exact short_arith _ _ _ _ _ _ _ _ _ (Nat.div_add_mod _ _)

theorem ShortAt.end' {b : Nat} {xs : List Nat} {d : Nat} {qs : List Nat} {r : Nat} (h : ShortAt b xs d 0 qs r) : dv b qs = dv b xs / d ∧ r = dv b xs % d := by
  obtain ⟨h1, h2, h3, h4, h5⟩ := h
  simp only [List.take_zero, dv, Nat.pow_zero, Nat.one_mul, Nat.zero_add] at h5
  rw [h5, Nat.add_mul_div_left _ _ (by omega), Nat.div_eq_of_lt h3, Nat.zero_add, Nat.add_mul_mod_self_left, Nat.mod_eq_of_lt h3]
  exact ⟨rfl, rfl⟩

end Go.Proofs.YthlpfhenaakljaaGreatDoor.Dg

namespace Go.Proofs.YthlpfhenaakljaaGreatDoor.Dg

theorem pow_le_of_length {b n k : Nat} (hb : 2 ≤ b) (h : k < (db b n).length) : b ^ k ≤ n := by
  rcases Nat.lt_or_ge n (b ^ k) with h1 | h1
  · have := db_length hb h1; omega
  · exact h1

/-- The highest digit. -/
theorem top_digit {b n k : Nat} (hb : 2 ≤ b) (h : (db b n).length = k + 1) : (db b n).getD k 0 = n / b ^ k ∧ 0 < n / b ^ k ∧ n / b ^ k < b := by
  have h1 := pow_le_of_length hb (show k < (db b n).length by omega)
  have h2 := lt_pow_length hb n
  rw [h, Nat.pow_succ, Nat.mul_comm] at h2
  have h3 : n / b ^ k < b := (Nat.div_lt_iff_lt_mul (Nat.pow_pos (by omega))).2 h2
  refine ⟨?_, Nat.div_pos h1 (Nat.pow_pos (by omega)), h3⟩
  rw [getD_eq (by omega) _ (db_Ds hb n), dv_db hb, Nat.mod_eq_of_lt h3]

theorem length_eq {b n k : Nat} (hb : 2 ≤ b) (h1 : b ^ k ≤ n) (h2 : n < b ^ (k + 1)) : (db b n).length = k + 1 := by
  have := db_length hb h2
  have := db_length_gt hb h1
  omega

/-- The divisor, shifted so that its highest place is 1. -/
theorem shift_D {n k s : Nat} (h : (db (2 ^ 64) n).length = k + 1) (hs : s = 64 - bl (n / (2 ^ 64) ^ k)) : s ≤ 63 ∧ (2 ^ 64) ^ k ≤ n * 2 ^ s ∧ n * 2 ^ s < (2 ^ 64) ^ (k + 1) ∧ (2 ^ 64) ^ k ≤ n := by
  obtain ⟨t1, t2, t3⟩ := top_digit (by decide) h
  have h1 := pow_le_of_length (b := 2 ^ 64) (by decide) (show k < (db (2 ^ 64) n).length by omega)
  have h4 := bl_pos (n := n / (2 ^ 64) ^ k) (by omega)
  have h5 := bl_le t3
  have h6 := lt_two_bl (n / (2 ^ 64) ^ k)
  generalize bl (n / (2 ^ 64) ^ k) = B at *
  refine ⟨by omega, Nat.le_trans h1 (Nat.le_mul_of_pos_right _ (Nat.two_pow_pos s)), ?_, h1⟩
  have hp : 0 < ((2 ^ 64) ^ k : Nat) := Nat.pow_pos (by decide)
  have h7 : n < 2 ^ B * (2 ^ 64) ^ k := (Nat.div_lt_iff_lt_mul hp).1 h6
  have h8 : n * 2 ^ s < 2 ^ B * (2 ^ 64) ^ k * 2 ^ s := Nat.mul_lt_mul_of_pos_right h7 (Nat.two_pow_pos s)
  have h9 : 2 ^ B * (2 ^ 64) ^ k * 2 ^ s = (2 ^ 64) ^ (k + 1) := by
    rw [Nat.mul_right_comm, ← Nat.pow_add, show B + s = 64 by omega, Nat.mul_comm]
    exact (Nat.pow_succ _ _).symm
  rw [h9] at h8
  exact h8

theorem dv_zeros (b : Nat) (xs : List Nat) (z : Nat) : dv b (xs ++ List.replicate z 0) = dv b xs := by
  rw [dv_append, dv_replicate_zero, Nat.mul_zero, Nat.add_zero]

/-- The rounds' start. -/
theorem DivAt.start {b m n s la k : Nat} (hb : 2 ≤ b) (hm : m < b ^ la) (hk : k + 1 ≤ la) (hn : b ^ k ≤ n) {z : Nat} (hz : (db b (m * 2 ^ s)).length + z = la + 1) :
    DivAt b (m * 2 ^ s) (n * 2 ^ s) (k + 1) la (la - (k + 1) + 1) (db b (m * 2 ^ s) ++ List.replicate z 0) (List.replicate (la - (k + 1) + 1) 0) := by
  have hds : ∀ j, Ds b (List.replicate j 0) := fun j x hx => by rw [List.eq_of_mem_replicate hx]; omega
  refine ⟨by simp [hz], (db_Ds hb _).append (hds _), by simp, hds _, ?_, ?_, fun j _ => ?_⟩
  · rw [dv_zeros, dv_db hb]
    have h1 : m * 2 ^ s < b ^ la * 2 ^ s := Nat.mul_lt_mul_of_pos_right hm (Nat.two_pow_pos s)
    have h2 : b ^ k * 2 ^ s * b ^ (la - (k + 1) + 1) ≤ n * 2 ^ s * b ^ (la - (k + 1) + 1) := Nat.mul_le_mul_right _ (Nat.mul_le_mul_right _ hn)
    have h3 : b ^ k * 2 ^ s * b ^ (la - (k + 1) + 1) = b ^ la * 2 ^ s := by
      rw [Nat.mul_right_comm, ← Nat.pow_add, show k + (la - (k + 1) + 1) = la by omega]
    omega
  · rw [dv_zeros, dv_db hb, dv_replicate_zero, Nat.mul_zero, Nat.add_zero]
  · by_cases h : j < la - (k + 1) + 1 <;> simp [List.getD, h]

theorem shifted_len {b m s la : Nat} (hb : 2 ≤ b) (hm : m < b ^ la) (hs : 2 ^ s ≤ b) : (db b (m * 2 ^ s)).length ≤ la + 1 := by
  apply db_length hb
  rw [Nat.pow_succ]
  exact Nat.lt_of_lt_of_le (Nat.mul_lt_mul_of_pos_right hm (Nat.two_pow_pos s)) (Nat.mul_le_mul_left _ hs)

/-- A part by its two highest digits. -/
theorem two_high {b : Nat} {p : List Nat} {k : Nat} (hp : Ds b p) (hl : p.length = k + 2) : ∃ rest, rest < b ^ k ∧ dv b p = rest + b ^ k * (p.getD k 0 + b * p.getD (k + 1) 0) := by
  refine ⟨dv b (p.take k), ?_, ?_⟩
  · have := dv_lt _ (hp.take k)
    rwa [List.length_take, Nat.min_eq_left (by omega)] at this
  · have e1 := dv_take_succ b p k
    have e2 := dv_take_succ b p (k + 1)
    rw [List.take_of_length_le (by omega)] at e2
    rw [e2, e1, Nat.pow_succ, Nat.mul_add, Nat.mul_assoc]
    omega
theorem one_high {b : Nat} {ds : List Nat} {k : Nat} (hl : ds.length = k + 1) : ∃ rest, dv b ds = rest + b ^ k * ds.getD k 0 := by
  have e1 := dv_take_succ b ds k
  rw [List.take_of_length_le (by omega)] at e1
  exact ⟨_, e1⟩

/-- The guess serves. -/
theorem guess_good {b : Nat} (hb : 2 ≤ b) {p ds : List Nat} {k g : Nat} (hp : Ds b p) (hl : p.length = k + 2) (hdl : ds.length = k + 1) (hd : 0 < ds.getD k 0) (hP : dv b p < dv b ds * b)
    (hg : g = if ds.getD k 0 ≤ p.getD (k + 1) 0 then b - 1 else (p.getD (k + 1) 0 * b + p.getD k 0) / ds.getD k 0) : dv b p / dv b ds ≤ g ∧ g < b := by
  obtain ⟨r1, hr1, e1⟩ := two_high hp hl
  obtain ⟨r2, e2⟩ := one_high (b := b) hdl
  have hlo := Ds.getD (by omega : 0 < b) hp k
  have h1 := guess_ge hr1 hd e1 e2
  have h2 : dv b p / dv b ds < b := by
    have h0 : 0 < dv b ds := by
      rcases Nat.eq_zero_or_pos (dv b ds) with h | h
      · rw [h, Nat.zero_mul] at hP; omega
      · exact h
    exact (Nat.div_lt_iff_lt_mul h0).2 (by rw [Nat.mul_comm]; exact hP)
  split at hg
  · omega
  · rename_i hlt
    subst hg
    refine ⟨h1, ?_⟩
    rw [Nat.div_lt_iff_lt_mul hd]
    have : (p.getD (k + 1) 0 + 1) * b ≤ ds.getD k 0 * b := Nat.mul_le_mul_right b (by omega)
    rw [Nat.add_mul, Nat.one_mul] at this
    rw [Nat.mul_comm b]; omega

/-- Nothing was borrowed: the guess was right. -/
theorem guess_right {P D g v N : Nat} (h : v + g * D = P + N * 0) (hq : P / D ≤ g) (hD : 0 < D) : P = v + D * g ∧ v < D := by
  have e : P = v + D * g := by rw [Nat.mul_comm D]; omega
  refine ⟨e, ?_⟩
  have h1 : P < D * (P / D + 1) := by have := Nat.div_add_mod P D; have := Nat.mod_lt P hD; rw [Nat.mul_add]; omega
  have h2 : D * (P / D + 1) ≤ D * (g + 1) := Nat.mul_le_mul_left _ (by omega)
  rw [Nat.mul_add D g] at h2
  omega

end Go.Proofs.YthlpfhenaakljaaGreatDoor.Dg

namespace Go.Proofs.YthlpfhenaakljaaGreatDoor
open Go

section
variable {P : Program} {ops : Array Oper} {md : Region.Mode} {C : World → Prop}

/-- Whatever order the head's operations come up in: quiet, and then L. -/
def HeadQ (P : Program) (md : Region.Mode) (ops : Array Oper) (C : World → Prop) (n : Nat) (L : Array Bool → Act → Prop) : Nat → Array Bool → Act → Prop
  | 0, done, a => L done a
  | f + 1, done, a => Region.ready md ops done ≠ [] ∧ ∀ i ∈ Region.ready md ops done, i < n ∧ qOp P ops C i (HeadQ P md ops C n L f (done.setIfInBounds i true)) a

theorem HeadQ.run {n g : Nat} {L : Array Bool → Act → Prop} {Q' : Exit → Act → World → Prop} (hL : ∀ done a w, C w → L done a → wpAny P md ops Q' g done a w) :
    ∀ (f : Nat) (done : Array Bool) (a : Act) (w : World), C w → HeadQ P md ops C n L f done a → wpAny P md ops Q' (f + g) done a w := by
  intro f
  induction f with
  | zero => intro done a w hw h; rw [Nat.zero_add]; exact hL _ _ _ hw h
  | succ f ih =>
    intro done a w hw h
    rw [show f + 1 + g = (f + g) + 1 by omega]
    exact ⟨fun h0 => absurd h0 h.1, fun i hi => wpOp_of_qOp hw (fun a' w' hw' h' => ih _ a' w' hw' h') (h.2 i hi).2⟩

theorem HeadQ.first {n i : Nat} {oi : Oper} {v : Value} {L : Array Bool → Act → Prop} (hi : ops[i]? = some oi) (hsel : ∀ (j : Nat) (o : Oper) cs b, ops[j]? = some o → o.op ≠ .select cs b)
    (hs : Region.sinkB md ops n = true) (hc : Region.chainB md ops n = true) (hn : n < ops.size) (hin : i < n)
    (hdone : ∀ done a, L done a → ∀ j ∈ Region.ready md ops done, n ≤ j) :
    ∀ (f : Nat) (done : Array Bool) (a : Act), HeadInv md ops n done →
      (∀ j oj, ops[j]? = some oj → j ≠ i → done.getD j true = false → (∀ e ∈ oj.after, Region.binds md e = true → e.on ≠ i) → oi.apart ops oj = true) →
      i ∈ Region.ready md ops done → YieldsIn P ops C oi v a →
      HeadQ P md ops C n L f (done.setIfInBounds i true) (a.put oi.dst v) → HeadQ P md ops C n L (f + 1) done a := by
  intro f
  induction f with
  | zero =>
    intro done a inv _ hr hy H
    have hun := (mem_ready.1 hr).1
    refine ⟨fun h => (by rw [h] at hr; cases hr), fun j hj => ?_⟩
    have hjn : j < n := Nat.lt_of_not_le fun h => tail_waits hs hc hn inv _ i rfl hin hun j h hj
    refine ⟨hjn, ?_⟩
    by_cases hji : j = i
    · subst hji; exact hy.qOp hi H
    · have := hdone _ _ H j (ready_mono hj hji)
      omega
  | succ f ih =>
    intro done a inv hfree hr hy H
    have hun := (mem_ready.1 hr).1
    refine ⟨fun h => (by rw [h] at hr; cases hr), fun j hj => ?_⟩
    have hjn : j < n := Nat.lt_of_not_le fun h => tail_waits hs hc hn inv _ i rfl hin hun j h hj
    refine ⟨hjn, ?_⟩
    by_cases hji : j = i
    · subst hji; exact hy.qOp hi H
    · have h1 := (H.2 j (ready_mono hj hji)).2
      obtain ⟨hjun, oj, hoj, hall⟩ := mem_ready.1 hj
      have hnot : ∀ e ∈ oj.after, Region.binds md e = true → e.on ≠ i := fun e he hb heq => by
        have h2 := hall e he hb
        rw [heq, getD_both hun] at h2
        cases h2
      have h2 := qOp_put hoj (hfree j oj hoj hji hjun hnot) (fun cs b => hsel i oi cs b hi) (fun cs b => hsel j oj cs b hoj) hy h1
      refine qOp_mono (fun a' h3 => ih (done.setIfInBounds j true) a' (inv.set hj hjn) (fun k ok hk hki hku hno => hfree k ok hk hki ?_ hno) (ready_mono hr (Ne.symm hji)) h3.1 ?_) h2
      · by_cases hjk : j = k
        · subst hjk; exact hjun
        · rw [getD_set_ne true hjk] at hku; exact hku
      · rw [Array.setIfInBounds_comm _ _ hji]
        exact h3.2

theorem HeadQ.lex {n g : Nat} {Lq : Act → Prop} (hsel : Region.noSelect ops = true) (hs : Region.sinkB md ops n = true) (hc : Region.chainB md ops n = true) (hn : n < ops.size) :
    ∀ (l : List Oper) (k : Nat) (done : Array Bool) (a : Act), (∀ j, j < l.length → l[j]? = ops[k + j]?) → k + l.length = n → HeadInv md ops n done →
    Region.lexHead md ops g l.length k done = true → wpQuiet P ops C Lq l a →
    HeadQ P md ops C n (fun done' a' => Region.seqB md ops g n done' = true ∧ Lq a') l.length done a := by
  intro l
  induction l with
  | nil =>
    intro k done a _ hk _ hB h
    obtain rfl : k = n := by simpa using hk
    exact ⟨by simpa [Region.lexHead] using hB, h⟩
  | cons o l ih =>
    intro k done a hl hk inv hB h
    have h0 : ops[k]? = some o := by simpa using (hl 0 (by simp)).symm
    simp only [List.length_cons, Region.lexHead, Bool.and_eq_true] at hB
    obtain ⟨⟨hr, hf⟩, hB'⟩ := hB
    have hkn : k < n := by simp only [List.length_cons] at hk; omega
    have hr' : k ∈ Region.ready md ops done := by simpa using hr
    have hst : qOp P ops C k (wpQuiet P ops C Lq l) a := by unfold qOp; simp only [h0]; exact h
    obtain ⟨v, hy, hK⟩ := yieldsIn_of_qOp h0 hst
    exact HeadQ.first h0 (Region.noSelect_spec hsel) hs hc hn hkn (fun done' a' hL => seqB_ready hL.1) l.length done a inv (Region.free_spec h0 hf) hr' hy
      (ih (k + 1) _ _ (fun j hj => by have := hl (j + 1) (by simp; omega); simpa [Nat.add_assoc, Nat.add_comm 1 j] using this) (by simp only [List.length_cons] at hk; omega) (inv.set hr' hkn) hB' hK)

theorem wp_region_quiet_tail {id : Nat} {Q : Exit → Act → World → Prop} {a : Act} {w : World} {l : List Oper} (n : Nat) (hm : P.follows .mixedOrders = true) (hB : Region.lexTailB .any l.toArray n = true)
    (h : wpQuiet P l.toArray (fun w' => ∃ m, w' = w.drewN m) (fun a' => ∀ w', (∃ m, w' = w.drewN m) → wpList P l.toArray Q (l.drop n) a' w') (l.take n) a) : (Code.region id l.toArray true).wp P Q a w := by
  simp only [Region.lexTailB, Bool.and_eq_true, decide_eq_true_eq] at hB
  obtain ⟨⟨⟨⟨hsel, hn⟩, hs⟩, hc⟩, hlex⟩ := hB
  have htl : (l.take n).length = n := by have : n < l.length := by simpa using hn
                                         simp; omega
  have hdl : (l.drop n).length = l.toArray.size - n := by simp
  have inv0 : HeadInv .any l.toArray n (Array.replicate l.toArray.size false) :=
    ⟨by simp, fun j oj _ hl => (by rw [getD_replicate_false] at hl; cases hl), fun t _ ht => getD_in (by simpa using ht) (getD_replicate_false _ _)⟩
  have H := HeadQ.lex (md := .any) (g := l.toArray.size - n) hsel hs hc hn (l.take n) 0 _ a (fun j hj => by
    rw [htl] at hj
    simp [hj]) (by simpa using htl) inv0 (by rw [htl]; exact hlex) h
  refine wp_region_any hm ?_
  have := HeadQ.run (C := fun w' => ∃ m, w' = w.drewN m) (Q' := Q) (g := l.toArray.size - n) (fun done a' w' hw' hL => by
    have := wpAny_of_seq (md := .any) (Q' := Q) (l.drop n) n done a' w' (fun j => by simp [List.getElem?_drop]) (by rw [hdl]; exact hL.1) (hL.2 w' hw')
    rwa [hdl] at this) _ _ _ { w with drawn := w.drawn + 1 } ⟨1, rfl⟩ H
  rw [htl, show n + (l.toArray.size - n) = l.toArray.size by simp at hn ⊢; omega] at this
  exact this
end
end Go.Proofs.YthlpfhenaakljaaGreatDoor

namespace Go.Proofs.YthlpfhenaakljaaGreatDoor
open Go.RowKit

/-- The cells of words. -/
def us (xs : List Nat) : List Value := xs.map fun (x : Nat) => Value.int .u64 (x : Int)

/-- The base of the limbs: kept behind a name. -/
def B64 : Nat := 18446744073709551616

/-- Words. -/
def Ws (xs : List Nat) : Prop := ∀ x ∈ xs, x < B64

/-- The slice that begins at a reads in w as the words xs. -/
def Rd (w : World) (a : Option Addr) (xs : List Nat) : Prop :=
  xs = [] ∨ ∃ b off, a = some ⟨b, off, none⟩ ∧ b < w.heap.size ∧ ∀ j, j < xs.length → w.cell? ⟨b, off + j, none⟩ = some (.int .u64 (xs.getD j 0 : Nat))

/-- The value reads in w as the words xs. -/
def Nv (w : World) (v : Value) (xs : List Nat) : Prop := Ws xs ∧ ∃ a cap, v = .slice a xs.length cap ∧ xs.length ≤ cap ∧ Rd w a xs

/-- The value owns its cells, the words xs, at a block from B on. -/
def No (B : Nat) (w : World) (v : Value) (xs : List Nat) : Prop := Ws xs ∧ w.ownsRow B 43 1 v xs.length (us xs)

theorem us_oneCell (xs : List Nat) : ∀ u ∈ us xs, u.oneCell' = true := by
  intro u hu
  obtain ⟨_, _, rfl⟩ := List.mem_map.1 hu
  rfl
theorem us_length (xs : List Nat) : (us xs).length = xs.length := by simp [us]

theorem No.nv {B : Nat} {w : World} {v : Value} {xs : List Nat} (h : No B w v xs) : Nv w v xs := by
  refine ⟨h.1, ?_⟩
  obtain ⟨_, hw⟩ := h
  rcases hw.2 with ⟨rfl, h0⟩ | ⟨g, cap, cur, rfl, hb, hg, r⟩
  · obtain rfl := List.eq_nil_of_length_eq_zero h0
    exact ⟨none, 0, rfl, Nat.zero_le _, .inl rfl⟩
  · refine ⟨_, cap, rfl, r.1, .inr ⟨g, 0, rfl, (Array.getElem?_eq_some_iff.1 hg).1, fun j hj => ?_⟩⟩
    have := World.ownsRow.cellAt hw j (by simpa using hj)
    rw [Nat.zero_add, this]
    simp [us, hj]

theorem ownsRow_below {B e s n : Nat} {w w' : World} {v : Value} {xs : List Value} (h : w.ownsRow B e s v n xs) (hb : Below w.heap.size w w') : w'.ownsRow B e s v n xs := by
  refine ⟨h.1, ?_⟩
  rcases h.2 with hn | ⟨g, cap', cur, hv, hbg, hg, r⟩
  · exact .inl hn
  · exact .inr ⟨g, cap', cur, hv, hbg, by rw [hb.block g (Array.getElem?_eq_some_iff.1 hg).1]; exact hg, r⟩

theorem ownsRow_mono {B B' e s n : Nat} {w : World} {v : Value} {xs : List Value} (h : w.ownsRow B e s v n xs) (hB : B' ≤ B) : w.ownsRow B' e s v n xs := by
  refine ⟨h.1, ?_⟩
  rcases h.2 with hn | ⟨g, cap', cur, hv, hbg, hg, r⟩
  · exact .inl hn
  · exact .inr ⟨g, cap', cur, hv, Nat.le_trans hB hbg, hg, r⟩

theorem No.below {B : Nat} {w w' : World} {v : Value} {xs : List Nat} (h : No B w v xs) (hb : Below w.heap.size w w') : No B w' v xs := ⟨h.1, ownsRow_below h.2 hb⟩
theorem No.mono {B B' : Nat} {w : World} {v : Value} {xs : List Nat} (h : No B w v xs) (hB : B' ≤ B) : No B' w v xs := ⟨h.1, ownsRow_mono h.2 hB⟩
theorem No.lt {B : Nat} {w : World} {v : Value} {xs : List Nat} (h : No B w v xs) : ∀ k, v.ownBlock = some k → B ≤ k ∧ k < w.heap.size := World.ownsRow.lt h.2

theorem Rd.below {w w' : World} {a : Option Addr} {xs : List Nat} (h : Rd w a xs) (hb : Below w.heap.size w w') : Rd w' a xs := by
  rcases h with rfl | ⟨b, off, rfl, hlt, hc⟩
  · exact .inl rfl
  · exact .inr ⟨b, off, rfl, Nat.lt_of_lt_of_le hlt hb.size, fun j hj => (hb.cell (p := ⟨b, off + j, none⟩) hlt).trans (hc j hj)⟩

theorem Nv.below {w w' : World} {v : Value} {xs : List Nat} (h : Nv w v xs) (hb : Below w.heap.size w w') : Nv w' v xs := by
  obtain ⟨h1, a, cap, rfl, hcap, hr⟩ := h
  exact ⟨h1, a, cap, rfl, hcap, hr.below hb⟩

theorem Rd.len0 {w : World} {a : Option Addr} {xs : List Nat} (h : Rd w a xs) (ha : a = none) : xs = [] := by
  rcases h with h | ⟨b, off, h, _⟩
  · exact h
  · rw [ha] at h; cases h
theorem Rd.take {w : World} {a : Option Addr} {xs : List Nat} (h : Rd w a xs) (n : Nat) : Rd w a (xs.take n) := by
  rcases h with rfl | ⟨b, off, rfl, hb, hc⟩
  · exact .inl (by simp)
  · refine .inr ⟨b, off, rfl, hb, fun j hj => ?_⟩
    rw [List.length_take] at hj
    rw [hc j (by omega)]
    simp [List.getD, show j < n by omega]

theorem Ws.nil : Ws [] := fun x hx => by simp at hx
theorem Ws.take {xs : List Nat} (h : Ws xs) (n : Nat) : Ws (xs.take n) := Dg.Ds.take h n
theorem Ws.getD {xs : List Nat} (h : Ws xs) (j : Nat) : xs.getD j 0 < B64 := Dg.Ds.getD (by decide) h j
theorem Ws.db (n : Nat) : Ws (Dg.db B64 n) := Dg.db_Ds (by decide) n

/-- A result that is a slice of words of the call's own. -/
def RetN (R : List Nat) (w : World) (e : Ending) (w' : World) : Prop := ∃ v, e = .returned v ∧ No w.heap.size w' v R ∧ Below w.heap.size w w'

/-- The limb at a place; 0 outside. -/
def limbAt (xs : List Nat) (i : Int) : Nat := if 0 ≤ i then xs.getD i.toNat 0 else 0

theorem limbAt_lt {xs : List Nat} (h : Ws xs) (i : Int) : limbAt xs i < B64 := by
  unfold limbAt; split
  · exact h.getD _
  · simp [B64]
theorem limbAt_nat (xs : List Nat) (i : Nat) : limbAt xs i = xs.getD i 0 := by simp [limbAt]

set_option maxHeartbeats 400000 in
theorem one_calls (c : Nat) (w : World) : Calls Tryz.prog 95 #[.int .u64 c] w fun e w' => e = .returned (.int .u64 (min c 1 : Nat)) ∧ w = w' := by
  by_cases h : (1 : Int) < c
  · have e : min c 1 = 1 := by omega
    rw [e]
    go_enter Tryz.func95, Tryz.ntmps95
    go_wp2
    go_ret
    exact ⟨rfl, rfl⟩
  · have e : min c 1 = c := by omega
    rw [e]
    go_enter Tryz.func95, Tryz.ntmps95
    go_wp2
    go_ret
    exact ⟨rfl, rfl⟩

set_option maxHeartbeats 400000 in
theorem limb_calls (v : Value) (xs : List Nat) (i : Int) (w : World) (hv : Nv w v xs) (hl : xs.length ≤ 4398046511104) :
    Calls Tryz.prog 111 #[v, .int .i64 i] w fun e w' => e = .returned (.int .u64 (limbAt xs i : Nat)) ∧ w = w' := by
  obtain ⟨_, a, cap, rfl, _, hr⟩ := hv
  by_cases h1 : i < 0
  · have e : limbAt xs i = 0 := by unfold limbAt; rw [if_neg (by omega)]
    rw [e]
    go_enter Tryz.func111, Tryz.ntmps111
    go_wp2
    go_ret
    exact ⟨rfl, rfl⟩
  · by_cases h2 : i < xs.length
    · rcases hr with rfl | ⟨b, off, rfl, hb, hc⟩
      · simp at h2; omega
      · have hcell := hc i.toNat (by omega)
        have e : limbAt xs i = xs.getD i.toNat 0 := by unfold limbAt; rw [if_pos (by omega)]
        rw [e]
        clear e hc
        go_enter Tryz.func111, Tryz.ntmps111
        go_wp2
        go_ret
        exact ⟨rfl, rfl⟩
    · have e : limbAt xs i = 0 := by
        unfold limbAt; rw [if_pos (by omega)]
        simp [List.getD, show ¬ i.toNat < xs.length by omega]
      rw [e]
      go_enter Tryz.func111, Tryz.ntmps111
      go_wp2
      go_ret
      exact ⟨rfl, rfl⟩

end Go.Proofs.YthlpfhenaakljaaGreatDoor

namespace Go.Proofs.YthlpfhenaakljaaGreatDoor
open Go.RowKit

theorem und_Nat : Tryz.prog.underlying 23 = some (.slice 43) := by kernel_rfl
theorem und_u64s : Tryz.prog.underlying 22 = some (.slice 43) := by kernel_rfl
theorem info_u64 : (Tryz.prog.info? 43).map (fun i => (i.zero, i.size, i.bytes)) = some (some (.int .u64 0), 1, 8) := by kernel_rfl

set_option maxHeartbeats 400000 in
theorem clone_calls (v : Value) (xs : List Nat) (w : World) (hv : Nv w v xs) (hl : xs.length ≤ 4398046511104) :
    Calls Tryz.prog 92 #[v] w (RetN xs w) := by
  obtain ⟨hx, a, cap, rfl, _, hr⟩ := hv
  obtain ⟨i0, hi, hz0, hz1, hz2⟩ := info_parts info_u64
  cases a with
  | none =>
    obtain rfl := hr.len0 rfl
    simp only [List.length_nil]
    have h := fun (w : World) => Lib.run_eql_slice_nil (P := Tryz.prog) w 23 43 none 0 cap 0 0 und_Nat
    go_enter Tryz.func92, Tryz.ntmps92
    go_wp2
    go_ret
    exact ⟨_, rfl, ⟨Ws.nil, World.ownsRow_nil _ _ _ _⟩, Below.refl _ _⟩
  | some ad =>
    have h := fun (w : World) => Lib.run_eql_slice_nil (P := Tryz.prog) w 23 43 (some ad) xs.length cap 0 0 und_Nat
    have hc : ∀ j u, (us xs)[j]? = some u → (w.alloc (.cells #[] 43)).cell? (ad.add j) = some u := by
      intro j u hu
      have hj : j < xs.length := by have := (List.getElem?_eq_some_iff.1 hu).1; simpa [us] using this
      rcases hr with rfl | ⟨b, off, he, hb, hc⟩
      · simp at hj
      · obtain rfl := Option.some.inj he
        rw [Addr.add_lit, World.cell?_alloc_past _ _ _ hb, hc j hj, ← hu]
        simp [us, hj]
    go_enter Tryz.func92, Tryz.ntmps92
    go_wp2_with (at_builtin; refine wpList_append_own _ rfl _ _ 23 rfl w.heap.size 43 i0 (.int .u64 0) 1 8 und_Nat hi hz0 hz1 hz2 rfl (by decide) _ 0 [] rfl (World.ownsRow_lit w #[] 0 (Nat.le_refl _) (Nat.zero_le _) rfl) ad xs.length cap (us xs) rfl (by simp [us]) hc (us_oneCell xs) ?c3 ?c4 ?c5 ?_)
    case c3 => unfold maxLen; omega
    case c4 => omega
    case c5 => simp
    intro v' w1 hown hg _
    go_wp2
    go_ret
    exact ⟨_, rfl, ⟨hx, by simpa using hown⟩, ((Below.refl _ _).alloc (Nat.le_refl _) _).grown hg (by simp) (fun k hk => by simp [Value.ownBlock] at hk; omega)⟩

theorem trim_stop {xs : List Nat} (hx : Ws xs) (n : Nat) (hn : n ≤ xs.length) (hz : ∀ j, n ≤ j → xs.getD j 0 = 0) (hl : n = 0 ∨ xs.getD (n - 1) 0 ≠ 0) :
    xs.take n = Dg.db B64 (Dg.dv B64 xs) := Dg.take_eq_db (by decide) xs hx n hn hz hl

set_option maxHeartbeats 400000 in
theorem trim_calls (v : Value) (xs : List Nat) (w : World) (hv : Nv w v xs) (hl : xs.length ≤ 4398046511104) :
    Calls Tryz.prog 59 #[v] w (RetN (Dg.db B64 (Dg.dv B64 xs)) w) := by
  obtain ⟨hx, a, cap, rfl, hcap, hr⟩ := hv
  go_enter Tryz.func59, Tryz.ntmps59
  go_wp2
  go_loop [3] (fun i => ∃ n : Nat, n ≤ xs.length ∧ i = .int .i64 n ∧ ∀ j, n ≤ j → xs.getD j 0 = 0) (fun i => (intOf i).toNat)
  case atStart => exact ⟨xs.length, Nat.le_refl _, rfl, fun j hj => by simp [List.getD, show ¬ j < xs.length by omega]⟩
  case round =>
    obtain ⟨n, hn, rfl, hz⟩ := hrel
    by_cases h0 : n = 0
    · subst h0
      have ht := Lib.hid (trim_stop hx 0 (Nat.zero_le _) hz (.inl rfl))
      clear hz
      go_wp2_with fail
      refine (clone_calls _ [] w ⟨Ws.nil, a, cap, rfl, by simp, .inl rfl⟩ (by simp)).mono ?_
      rintro e w' ⟨v, rfl, hno, hb⟩
      go_wp2
      go_ret
      exact ⟨v, rfl, by rw [← ht.out]; exact hno, hb⟩
    · have h0' : (0 : Int) < n := by omega
      rcases hr with rfl | ⟨b, off, rfl, hb, hc⟩
      · exact absurd hn (by simp; omega)
      have hc1 := hc (n - 1) (by omega)
      have ht := trim_stop hx n hn hz
      have hz' : xs.getD (n - 1) 0 = 0 → ∀ j, n - 1 ≤ j → xs.getD j 0 = 0 := fun h j hj => by
        rcases Nat.lt_or_ge j n with hlt | hge
        · have : j = n - 1 := by omega
          rw [this, h]
        · exact hz j hge
      have hr : Rd w (some ⟨b, off, none⟩) (xs.take n) := Rd.take (.inr ⟨b, off, rfl, hb, hc⟩) n
      generalize xs.getD (n - 1) 0 = x at *
      by_cases h1 : x = 0
      · subst h1
        have hz1 := Lib.hid (hz' rfl)
        clear hz hz' ht hc hr
        go_wp2_with fail
        go_round
        case rel => exact ⟨n - 1, by omega, by go_num, hz1.out⟩
        case measure => simp [intOf]; omega
      · have h1' : ((x : Int) == 0) = false := by simpa using h1
        have HT := Lib.hid (ht (.inr h1))
        clear hz hz' ht hc
        go_wp2_with fail
        refine (clone_calls _ (xs.take n) w ⟨hx.take n, _, cap, by rw [List.length_take, Nat.min_eq_left hn], by rw [List.length_take]; omega, hr⟩ (by rw [List.length_take]; omega)).mono ?_
        rintro e w' ⟨v, rfl, hno, hb⟩
        go_wp2
        go_ret
        exact ⟨v, rfl, by rw [← HT.out]; exact hno, hb⟩

end Go.Proofs.YthlpfhenaakljaaGreatDoor

namespace Go.Proofs.YthlpfhenaakljaaGreatDoor
open Go.RowKit

theorem cmp_step {xs ys : List Nat} {i : Int} (h0 : 0 ≤ i) (h : ∀ j : Nat, i < j → xs.getD j 0 = ys.getD j 0) (he : limbAt xs i = limbAt ys i) : ∀ j : Nat, i - 1 < j → xs.getD j 0 = ys.getD j 0 := fun j hj => by
  by_cases e : (j : Int) = i
  · subst e; rw [limbAt_nat, limbAt_nat] at he; exact he
  · exact h j (by omega)
theorem cmp_lt {xs ys : List Nat} (hx : Ws xs) (hy : Ws ys) {i : Int} (h0 : 0 ≤ i) (h : ∀ j : Nat, i < j → xs.getD j 0 = ys.getD j 0) (he : limbAt xs i < limbAt ys i) : Dg.cmpZ (Dg.dv B64 xs) (Dg.dv B64 ys) = -1 := by
  obtain ⟨k, rfl⟩ := Int.eq_ofNat_of_zero_le h0
  rw [limbAt_nat, limbAt_nat] at he
  exact Dg.cmpZ_lt (Dg.lt_of_digit (by decide) k xs ys hx hy (fun j hj => h j (by omega)) he)
theorem cmp_gt {xs ys : List Nat} (hx : Ws xs) (hy : Ws ys) {i : Int} (h0 : 0 ≤ i) (h : ∀ j : Nat, i < j → xs.getD j 0 = ys.getD j 0) (he : limbAt ys i < limbAt xs i) : Dg.cmpZ (Dg.dv B64 xs) (Dg.dv B64 ys) = 1 := by
  obtain ⟨k, rfl⟩ := Int.eq_ofNat_of_zero_le h0
  rw [limbAt_nat, limbAt_nat] at he
  exact Dg.cmpZ_gt (Dg.lt_of_digit (by decide) k ys xs hy hx (fun j hj => (h j (by omega)).symm) he)
theorem cmp_eq {xs ys : List Nat} {i : Int} (h0 : i < 0) (h : ∀ j : Nat, i < j → xs.getD j 0 = ys.getD j 0) : Dg.cmpZ (Dg.dv B64 xs) (Dg.dv B64 ys) = 0 := by
  rw [Dg.dv_eq_of_getD B64 xs ys (fun j => h j (by omega)), Dg.cmpZ_eq]
theorem cmp_top {xs ys : List Nat} {i : Int} (h1 : (xs.length : Int) ≤ i + 1) (h2 : (ys.length : Int) ≤ i + 1) : ∀ j : Nat, i < j → xs.getD j 0 = ys.getD j 0 := fun j hj => by
  simp [List.getD, show ¬ j < xs.length by omega, show ¬ j < ys.length by omega]

theorem ret_int' {k : IntKind} {a b : Int} (h : a = b) : Ending.returned (.int k a) = .returned (.int k b) := by rw [h]

set_option maxHeartbeats 800000 in
theorem cmp_calls (v1 v2 : Value) (xs ys : List Nat) (w : World) (h1 : Nv w v1 xs) (h2 : Nv w v2 ys) (l1 : xs.length ≤ 4398046511104) (l2 : ys.length ≤ 4398046511104) :
    Calls Tryz.prog 74 #[v1, v2] w fun e w' => e = .returned (.int .i64 (Dg.cmpZ (Dg.dv B64 xs) (Dg.dv B64 ys))) ∧ w = w' := by
  have hx := h1.1
  have hy := h2.1
  have k1 := fun i => limb_calls v1 xs i w h1 l1
  have k2 := fun i => limb_calls v2 ys i w h2 l2
  obtain ⟨_, a1, c1, rfl, _, _⟩ := h1
  obtain ⟨_, a2, c2, rfl, _, _⟩ := h2
  have K1 := Lib.hid k1
  have K2 := Lib.hid k2
  clear k1 k2
  go_enter Tryz.func74, Tryz.ntmps74
  go_wp2_with fail
  all_goals
    go_loop [5] (fun s => ∃ i : Int, -1 ≤ i ∧ i ≤ 4398046511104 ∧ s = .int .i64 i ∧ ∀ j : Nat, i < j → xs.getD j 0 = ys.getD j 0) (fun s => (intOf s + 1).toNat)
    case atStart => exact ⟨_, by omega, by omega, rfl, cmp_top (by omega) (by omega)⟩
    case round =>
      obtain ⟨i, hi1, hi2, rfl, hj⟩ := hrel
      by_cases h0 : i < 0
      · have hfin := Lib.hid (cmp_eq h0 hj)
        clear hj
        go_wp2_with fail
        go_ret
        exact ⟨ret_int' hfin.out.symm, rfl⟩
      · have hstep := Lib.hid (cmp_step (by omega) hj)
        have hlt := Lib.hid (cmp_lt hx hy (by omega) hj)
        have hgt := Lib.hid (cmp_gt hx hy (by omega) hj)
        clear hj
        go_wp2_with fail
        refine (K1.out i).mono ?_
        rintro e w' ⟨rfl, rfl⟩
        go_wp2_with fail
        refine (K2.out i).mono ?_
        rintro e w' ⟨rfl, rfl⟩
        generalize limbAt xs i = p at *
        generalize limbAt ys i = q at *
        rcases Nat.lt_trichotomy p q with h | h | h
        · go_wp2_with fail
          go_ret
          exact ⟨ret_int' (hlt.out h).symm, rfl⟩
        · have hs := Lib.hid (hstep.out h)
          subst h
          go_wp2_with fail
          go_round
          case rel => exact ⟨i - 1, by omega, by omega, by go_num, hs.out⟩
          case measure => simp [intOf]; omega
        · go_wp2_with fail
          go_ret
          exact ⟨ret_int' (hgt.out h).symm, rfl⟩

end Go.Proofs.YthlpfhenaakljaaGreatDoor

namespace Go.Proofs.YthlpfhenaakljaaGreatDoor
open Go.RowKit

/-- What word.Len keeps: how far it has gone. -/
def WL (a0 a n b : Nat) : Prop := Dg.bl a0 = n + Dg.bl a ∧ n + 2 * b ≤ 64 ∧ ((b = 0 ∧ a < 2) ∨ (b = 1 ∧ a < 4) ∨ (b = 2 ∧ a < 16) ∨ (b = 4 ∧ a < 256) ∨ (b = 8 ∧ a < 65536) ∨ (b = 16 ∧ a < 4294967296) ∨ (b = 32 ∧ a < 18446744073709551616))

theorem WL_start (a : Nat) (h : a < B64) : WL a a 0 32 := ⟨by simp, by omega, by unfold B64 at h; omega⟩
theorem WL_end {a0 a n : Nat} (h : WL a0 a n 0) : n + a = Dg.bl a0 := by
  obtain ⟨h1, _, h2⟩ := h
  rw [h1, Dg.bl_small (by omega)]
theorem WL_b {a0 a n b : Nat} (h : WL a0 a n b) : b ≤ 32 ∧ n ≤ 64 := by obtain ⟨_, h1, _⟩ := h; omega
theorem WL_dis {a b : Nat} (h : (b = 0 ∧ a < 2) ∨ (b = 1 ∧ a < 4) ∨ (b = 2 ∧ a < 16) ∨ (b = 4 ∧ a < 256) ∨ (b = 8 ∧ a < 65536) ∨ (b = 16 ∧ a < 4294967296) ∨ (b = 32 ∧ a < 18446744073709551616))
    (hb : b ≠ 0) : ∀ c, (c < 2 ^ b) → (b / 2 = 0 ∧ c < 2) ∨ (b / 2 = 1 ∧ c < 4) ∨ (b / 2 = 2 ∧ c < 16) ∨ (b / 2 = 4 ∧ c < 256) ∨ (b / 2 = 8 ∧ c < 65536) ∨ (b / 2 = 16 ∧ c < 4294967296) ∨ (b / 2 = 32 ∧ c < 18446744073709551616) := by
  intro c hc
  rcases h with ⟨rfl, h⟩ | ⟨rfl, h⟩ | ⟨rfl, h⟩ | ⟨rfl, h⟩ | ⟨rfl, h⟩ | ⟨rfl, h⟩ | ⟨rfl, h⟩
  · exact absurd rfl hb
  · exact .inl ⟨rfl, hc⟩
  · exact .inr (.inl ⟨rfl, hc⟩)
  · exact .inr (.inr (.inl ⟨rfl, hc⟩))
  · exact .inr (.inr (.inr (.inl ⟨rfl, hc⟩)))
  · exact .inr (.inr (.inr (.inr (.inl ⟨rfl, hc⟩))))
  · exact .inr (.inr (.inr (.inr (.inr (.inl ⟨rfl, hc⟩)))))
theorem WL_sq {a b : Nat} (h : (b = 0 ∧ a < 2) ∨ (b = 1 ∧ a < 4) ∨ (b = 2 ∧ a < 16) ∨ (b = 4 ∧ a < 256) ∨ (b = 8 ∧ a < 65536) ∨ (b = 16 ∧ a < 4294967296) ∨ (b = 32 ∧ a < 18446744073709551616))
    (hb : b ≠ 0) : a < 2 ^ b * 2 ^ b := by
  rcases h with ⟨rfl, h⟩ | ⟨rfl, h⟩ | ⟨rfl, h⟩ | ⟨rfl, h⟩ | ⟨rfl, h⟩ | ⟨rfl, h⟩ | ⟨rfl, h⟩
  · exact absurd rfl hb
  all_goals exact h
theorem WL_hit {a0 a n b : Nat} (h : WL a0 a n b) (hb : b ≠ 0) (hs : a / 2 ^ b ≠ 0) : WL a0 (a / 2 ^ b) (n + b) (b / 2) := by
  obtain ⟨h1, h2, h3⟩ := h
  exact ⟨by rw [h1, Dg.bl_shift hs]; omega, by omega, WL_dis h3 hb _ ((Nat.div_lt_iff_lt_mul (Nat.two_pow_pos b)).2 (WL_sq h3 hb))⟩
theorem WL_miss {a0 a n b : Nat} (h : WL a0 a n b) (hb : b ≠ 0) (hs : a / 2 ^ b = 0) : WL a0 a n (b / 2) := by
  obtain ⟨h1, h2, h3⟩ := h
  exact ⟨h1, by omega, WL_dis h3 hb _ ((Nat.div_eq_zero_iff.1 hs).resolve_left (Nat.ne_of_gt (Nat.two_pow_pos b)))⟩
theorem WL_a {a0 a n b : Nat} (h : WL a0 a n b) : a < B64 := by
  obtain ⟨h1, h2, h3⟩ := h
  unfold B64; omega

set_option maxHeartbeats 800000 in
theorem wlen_calls (a : Nat) (w : World) (h : a < B64) : Calls Tryz.prog 78 #[.int .u64 a] w fun e w' => e = .returned (.int .i64 (Dg.bl a : Nat)) ∧ w = w' := by
  have hs := WL_start a h
  clear h
  go_enter Tryz.func78, Tryz.ntmps78
  go_wp2_with fail
  go_step3
  go_wp2_with fail
  go_step3
  go_wp2_with fail
  go_loop [0, 3, 4] (fun x y z => ∃ p n b : Nat, WL a p n b ∧ x = .int .u64 p ∧ y = .int .i64 n ∧ z = .int .i64 b) (fun _ _ z => (intOf z).toNat)
  case atStart => exact ⟨a, 0, 32, hs, rfl, rfl, rfl⟩
  case round =>
    obtain ⟨p, n, b, hW, rfl, rfl, rfl⟩ := hrel
    have hb := WL_b hW
    by_cases h0 : b = 0
    · subst h0
      have hfin := WL_end hW
      have hp2 : p < 2 := by obtain ⟨_, _, h⟩ := hW; omega
      have HF := Lib.hid hfin
      clear hW hfin
      go_wp2_with fail
      go_ret
      exact ⟨ret_int' (by rw [← HF.out]; simp), rfl⟩
    · have H := Lib.hid hW
      have hpa := WL_a hW
      clear hW
      have h0' : ((b : Int) == 0) = false := by simpa using h0
      go_wp2_with fail
      · have hh : ((p : Int) / 2 ^ b != 0) = true := by assumption
        have hs : p / 2 ^ b ≠ 0 := by
          intro h
          have : (p : Int) / 2 ^ b = ((p / 2 ^ b : Nat) : Int) := by push_cast; rfl
          rw [this, h] at hh
          simp at hh
        go_round
        case rel => exact ⟨p / 2 ^ b, n + b, b / 2, WL_hit H.out h0 hs, by push_cast; rfl, by go_num, by push_cast; rfl⟩
        case measure => simp [intOf]; omega
      · have hh : ((p : Int) / 2 ^ b != 0) = false := by assumption
        have hs : p / 2 ^ b = 0 := by
          have : (p : Int) / 2 ^ b = ((p / 2 ^ b : Nat) : Int) := by push_cast; rfl
          rw [this] at hh
          have h3 := bne_eq_false_iff_eq.1 hh
          omega
        go_round
        case rel => exact ⟨p, n, b / 2, WL_miss H.out h0 hs, rfl, rfl, by push_cast; rfl⟩
        case measure => simp [intOf]; omega

/-- What is told of the highest limb. -/
theorem len_hit {xs : List Nat} (hx : Ws xs) {i : Nat} (hz : ∀ j : Nat, i < j → xs.getD j 0 = 0) (hi : xs.getD i 0 ≠ 0) : Dg.bl (Dg.dv B64 xs) = i * 64 + Dg.bl (xs.getD i 0) := by
  have e : B64 = 2 ^ 64 := by decide
  have hx' : Dg.Ds (2 ^ 64) xs := by rw [← e]; exact hx
  have := Dg.bl_dv (s := 64) xs hx' i hz hi
  rw [e, this, Nat.mul_comm]

set_option maxHeartbeats 800000 in
theorem len_calls (v : Value) (xs : List Nat) (w : World) (hv : Nv w v xs) (hl : xs.length ≤ 4398046511104) :
    Calls Tryz.prog 75 #[v] w fun e w' => e = .returned (.int .i64 (Dg.bl (Dg.dv B64 xs) : Nat)) ∧ w = w' := by
  obtain ⟨hx, a, cap, rfl, hcap, hr⟩ := hv
  go_enter Tryz.func75, Tryz.ntmps75
  go_wp2_with fail
  go_loop [3] (fun s => ∃ i : Int, -1 ≤ i ∧ i < xs.length ∧ s = .int .i64 i ∧ ∀ j : Nat, i < j → xs.getD j 0 = 0) (fun s => (intOf s + 1).toNat)
  case atStart => exact ⟨_, by omega, by omega, rfl, fun j hj => by simp [List.getD, show ¬ j < xs.length by omega]⟩
  case round =>
    obtain ⟨i, hi1, hi2, rfl, hj⟩ := hrel
    by_cases h0 : i < 0
    · have hfin := Lib.hid (show Dg.dv B64 xs = 0 from (Dg.dv_eq_zero (by decide)).2 (fun x hx => by
        obtain ⟨k, hk, rfl⟩ := List.getElem_of_mem hx
        have := hj k (by omega)
        simpa [List.getD, hk] using this))
      clear hj
      go_wp2_with fail
      go_ret
      exact ⟨ret_int' (by rw [hfin.out]; rfl), rfl⟩
    · obtain ⟨k, rfl⟩ := Int.eq_ofNat_of_zero_le (by omega : 0 ≤ i)
      rcases hr with rfl | ⟨b, off, rfl, hb, hc⟩
      · simp at hi2; omega
      have hc1 := hc k (by omega)
      have hhit := fun h => len_hit hx (i := k) (fun j h => hj j (by omega)) h
      have hz : xs.getD k 0 = 0 → ∀ j : Nat, (k : Int) - 1 < j → xs.getD j 0 = 0 := fun h j hjk => by
        by_cases e : j = k
        · subst e; exact h
        · exact hj j (by omega)
      have hxk := hx.getD k
      generalize xs.getD k 0 = x at *
      clear hc hj
      by_cases h1 : x = 0
      · subst h1
        have hz1 := Lib.hid (hz rfl)
        clear hz hhit
        go_wp2_with fail
        go_round
        case rel => exact ⟨(k : Int) - 1, by omega, by omega, by go_num, hz1.out⟩
        case measure => simp only [intOf]; omega
      · have h1' : ((x : Int) != 0) = true := by simpa using h1
        have HF := Lib.hid (hhit h1)
        have hbl : Dg.bl x ≤ 64 := Dg.bl_le (by have : B64 = 2 ^ 64 := by decide
                                                omega)
        clear hz hhit
        go_wp2_with fail
        refine (wlen_calls x w hxk).mono ?_
        rintro e w' ⟨rfl, rfl⟩
        go_wp2_with fail
        go_ret
        exact ⟨ret_int' (by rw [HF.out]; push_cast; rfl), rfl⟩

set_option maxHeartbeats 400000 in
theorem zero_calls (v : Value) (xs : List Nat) (w : World) (hv : Nv w v xs) (hl : xs.length ≤ 4398046511104) :
    Calls Tryz.prog 44 #[v] w fun e w' => e = .returned (.bool (decide (Dg.dv B64 xs = 0))) ∧ w = w' := by
  have hlen := Lib.hid (len_calls v xs w hv hl)
  have e : decide (Dg.dv B64 xs = 0) = ((Dg.bl (Dg.dv B64 xs) : Int) == 0) := by
    rw [Bool.eq_iff_iff]; simp [Dg.bl_eq_zero]
  rw [e]
  clear e hv
  generalize Dg.bl (Dg.dv B64 xs) = k at *
  go_enter Tryz.func44, Tryz.ntmps44
  go_wp2_with fail
  refine (hlen.out).mono ?_
  rintro e w' ⟨rfl, rfl⟩
  go_wp2_with fail
  go_ret
  exact ⟨rfl, rfl⟩

set_option maxHeartbeats 400000 in
theorem small_calls (v : Value) (xs : List Nat) (w : World) (hv : Nv w v xs) (hl : xs.length ≤ 4398046511104) :
    Calls Tryz.prog 87 #[v] w fun e w' => e = .returned (.tuple #[.int .u64 (if Dg.dv B64 xs < B64 then Dg.dv B64 xs else 0 : Nat), .bool (decide (Dg.dv B64 xs < B64))]) ∧ w = w' := by
  have hlen := Lib.hid (len_calls v xs w hv hl)
  have hlimb := Lib.hid (limb_calls v xs 0 w hv hl)
  have hb : Dg.bl (Dg.dv B64 xs) ≤ 64 ↔ Dg.dv B64 xs < B64 := by
    have e : B64 = 2 ^ 64 := by decide
    constructor
    · intro h
      have := Dg.lt_two_bl (Dg.dv B64 xs)
      have h2 := Nat.pow_le_pow_right (n := 2) (by omega) h
      omega
    · intro h; exact Dg.bl_le (by omega)
  by_cases h : Dg.dv B64 xs < B64
  · have hlt := hb.2 h
    have e0 : limbAt xs 0 = Dg.dv B64 xs := by
      have := Dg.getD_eq (b := B64) (by decide) xs hv.1 0
      rw [show (0 : Int) = ((0 : Nat) : Int) from rfl, limbAt_nat, this]
      simp [Nat.mod_eq_of_lt h]
    rw [if_pos h, decide_eq_true h]
    rw [e0] at hlimb
    clear e0 hb hv
    generalize Dg.bl (Dg.dv B64 xs) = k at *
    generalize Dg.dv B64 xs = p at *
    go_enter Tryz.func87, Tryz.ntmps87
    go_wp2_with fail
    refine (hlen.out).mono ?_
    rintro e w' ⟨rfl, rfl⟩
    go_wp2_with fail
    refine (hlimb.out).mono ?_
    rintro e w' ⟨rfl, rfl⟩
    go_wp2_with fail
    go_ret2
    exact ⟨rfl, rfl⟩
  · have hlt : 64 < Dg.bl (Dg.dv B64 xs) := by
      rcases Nat.lt_or_ge 64 (Dg.bl (Dg.dv B64 xs)) with h1 | h1
      · exact h1
      · exact absurd (hb.1 h1) h
    rw [if_neg h, decide_eq_false h]
    clear hb hv hlimb
    generalize Dg.bl (Dg.dv B64 xs) = k at *
    go_enter Tryz.func87, Tryz.ntmps87
    go_wp2_with fail
    refine (hlen.out).mono ?_
    rintro e w' ⟨rfl, rfl⟩
    go_wp2_with fail
    go_ret2
    exact ⟨rfl, rfl⟩

end Go.Proofs.YthlpfhenaakljaaGreatDoor
