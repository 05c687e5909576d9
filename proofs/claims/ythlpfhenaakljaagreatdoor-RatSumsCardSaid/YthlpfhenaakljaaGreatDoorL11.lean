/- A region that draws its order, with variables of one type that are made and filled in it. law06.spoil, said more finely: it writes into rows of words alone. The contracts that law06.RatSums asks, over values that read as fractions. Regions over fractions: loads of rows, variables made, fractions stored, negations. law06.RatSums. Arguments that read as data read as fractions. -/
import Derived.Test.YthlpfhenaakljaaGreatDoorL10
import Derived.Laws.Rows
import Derived.Laws.Tables
import Derived.Below
import Derived.Deep.Slices
import Derived.ChangeSame
import Derived.ChangeSlices
namespace Go.Proofs.YthlpfhenaakljaaGreatDoor
open Go Go.RowKit

/-- What is no row of the type stays. -/
structure Rx (B : Nat) (ty : TypeId) (w w' : World) : Prop where
  bel : Below B w w'
  keep : ∀ (g : Nat) (o : Obj), w.heap[g]? = some o → (∀ cs, o ≠ Obj.cells cs ty (0, 0)) → w'.heap[g]? = some o

theorem Rx.refl (B : Nat) (ty : TypeId) (w : World) : Rx B ty w w := ⟨Below.refl _ _, fun _ _ h _ => h⟩
theorem Rx.of_below {B : Nat} {ty : TypeId} {w w' : World} (h : Below w.heap.size w w') (hB : B ≤ w.heap.size) : Rx B ty w w' :=
  ⟨h.mono hB, fun g _ hg _ => (h.block g (Array.getElem?_eq_some_iff.1 hg).1).trans hg⟩

inductive Kd where
  | plain (ts : List Tmp) (g : Option (Option Tmp × Bool))
  | made
  | store (t s : Tmp)

section
variable {P : Program} {Q : Exit → Act → World → Prop}

/-- A variable of the type, with what it holds. -/
def Holds (B : Nat) (ty : TypeId) (n : Nat) (w : World) (p v : Value) : Prop := ∃ g cs, p = .pointer (some ⟨g, 0, none⟩) ∧ B ≤ g ∧ v = .agg cs ∧ cs.size = n ∧ w.heap[g]? = some (.cells cs ty (0, 0))

def Dist (B : Nat) (As : List Tmp) (r : Tmp → Value) (w : World) : Prop :=
  ∀ t ∈ As, ∀ g, r t = .pointer (some ⟨g, 0, none⟩) → g < w.heap.size ∧ (B ≤ g → ∀ t' ∈ As, t' ≠ t → r t' ≠ .pointer (some ⟨g, 0, none⟩))

def boxK (S : Tmp → World → Value → Prop) (B : Nat) (ty : TypeId) (n : Nat) (o : Oper) (r : Tmp → Value) (w : World) : Kd → Prop
  | .plain _ _ => ∀ d, o.dst = some d → S d w (r d)
  | .made => ∀ d, o.dst = some d → ∃ v, Holds B ty n w (r d) v
  | .store t s => Holds B ty n w (r t) (r s)

def boxT (S : Tmp → World → Value → Prop) (B : Nat) (ty : TypeId) (n : Nat) (l : List Oper) (ks : List Kd) (i : Nat) (r : Tmp → Value) (w : World) : Prop :=
  ∀ o k, l[i]? = some o → ks[i]? = some k → boxK S B ty n o r w k

/-- What a plain operation is to show. -/
def BoxPlain (P : Program) (S : Tmp → World → Value → Prop) (I : World → Prop) (B : Nat) (ds : List Tmp) (r0 : Tmp → Value) (o : Oper) (ts : List Tmp) (g : Option (Option Tmp × Bool)) : Prop :=
  ∀ r w, (∀ t, t ∉ ds → r t = r0 t) → I w → B ≤ w.heap.size → AllT S r w ts →
    (wantsOf r g = true ∧ Brings P (execOp (evalOf r) o) w fun v w' => Below w.heap.size w w' ∧ DstS S o.dst w' v) ∨ (wantsOf r g = false ∧ DstS S o.dst w undef)

def BoxOp (P : Program) (S : Tmp → World → Value → Prop) (I : World → Prop) (B : Nat) (ty : TypeId) (n : Nat) (ds : List Tmp) (r0 : Tmp → Value) (o : Oper) : Kd → Prop
  | .plain ts g => BoxPlain P S I B ds r0 o ts g
  | .made => ∀ r w, Brings P (execOp (evalOf r) o) w fun v w' => v = .pointer (some ⟨w.heap.size, 0, none⟩) ∧ ∃ cs, cs.size = n ∧ w' = w.alloc (.cells cs ty)
  | .store t s => o.op = .store ty (.tmp t) (.tmp s) ∧ ∀ w v, S s w v → ∃ cs, v = .agg cs ∧ cs.size = n ∧ cs.all (·.oneCell') = true

def BoxOps (P : Program) (S : Tmp → World → Value → Prop) (I : World → Prop) (B : Nat) (ty : TypeId) (n : Nat) (ds : List Tmp) (r0 : Tmp → Value) : List Oper → List Kd → Prop
  | o :: l, k :: ks => BoxOp P S I B ty n ds r0 o k ∧ BoxOps P S I B ty n ds r0 l ks
  | [], _ => True
  | _ :: _, [] => False

theorem boxOps_get {S : Tmp → World → Value → Prop} {I : World → Prop} {B : Nat} {ty : TypeId} {n : Nat} {ds : List Tmp} {r0 : Tmp → Value} : ∀ (l : List Oper) (ks : List Kd), BoxOps P S I B ty n ds r0 l ks →
    ∀ (i : Nat) (o : Oper), l[i]? = some o → ∃ k, ks[i]? = some k ∧ BoxOp P S I B ty n ds r0 o k := by
  intro l
  induction l with
  | nil => intro ks _ i o h; simp at h
  | cons x l ih =>
    intro ks h i o hi
    cases ks with
    | nil => exact h.elim
    | cons k ks =>
      obtain ⟨h1, h2⟩ := h
      cases i with
      | zero => simp at hi; subst hi; exact ⟨k, rfl, h1⟩
      | succ i => exact ih ks h2 i o (by simpa using hi)

/-- Operation i waits for one of the kind that writes the slot. -/
def waitsFor (l : List Oper) (ks : List Kd) (o : Oper) (t : Tmp) (f : Kd → Bool) : Bool :=
  o.after.any fun e => Region.binds .any e && ((l[e.on]?).map fun x => decide (x.dst = some t)) == some true && ((ks[e.on]?).map f) == some true

def Kd.isPlain : Kd → Bool | .plain _ _ => true | _ => false
def Kd.isMade : Kd → Bool | .made => true | _ => false
def Kd.slots : Kd → List Tmp | .store t s => [t, s] | _ => []
def Kd.target : Kd → Option Tmp | .store t _ => some t | _ => none

/-- The form of operation i. -/
def formB (l : List Oper) (ks : List Kd) (As : List Tmp) (o : Oper) : Kd → Bool
  | .plain ts g => (ts.all fun t => waitsFor l ks o t Kd.isPlain) && (match o.dst with | some d => !As.contains d | none => true) && decide (guardOf l.toArray o = g)
  | .made => (match o.dst with | some d => As.contains d | none => false) && decide (guardOf l.toArray o = none)
  | .store t s => As.contains t && waitsFor l ks o t Kd.isMade && waitsFor l ks o s Kd.isPlain && decide (guardOf l.toArray o = none) && decide (o.dst = none)

def formAll (l : List Oper) (ks : List Kd) (As : List Tmp) : List Oper → List Kd → Bool
  | o :: os, k :: kk => formB l ks As o k && formAll l ks As os kk
  | [], _ => true
  | _ :: _, [] => false

/-- No slot of a store is written by one that it does not wait for; the stores' variables are not the same. -/
def crossB (l : List Oper) (ks : List Kd) : Bool :=
  (List.range l.length).all fun i => (List.range l.length).all fun j => i == j ||
    ((match l[i]?, ks[j]? with
      | some o, some k => (match o.dst with
        | some d => !k.slots.contains d || (match l[j]? with | some x => x.after.any fun e => Region.binds .any e && e.on == i | none => true)
        | none => true)
      | _, _ => true) &&
    (match ks[i]?, ks[j]? with
      | some (.store t _), some (.store t' _) => decide (t ≠ t')
      | _, _ => true))

theorem formAll_get {l : List Oper} {ks : List Kd} {As : List Tmp} : ∀ (os : List Oper) (kk : List Kd), formAll l ks As os kk = true → ∀ (i : Nat) (o : Oper) (k : Kd), os[i]? = some o → kk[i]? = some k → formB l ks As o k = true := by
  intro os
  induction os with
  | nil => intro kk _ i o k h; simp at h
  | cons x os ih =>
    intro kk h i o k hi hk
    cases kk with
    | nil => simp at hk
    | cons y kk =>
      simp only [formAll, Bool.and_eq_true] at h
      cases i with
      | zero => simp at hi hk; subst hi; subst hk; exact h.1
      | succ i => exact ih kk h.2 i o k (by simpa using hi) (by simpa using hk)

theorem waitsFor_spec {l : List Oper} {ks : List Kd} {o : Oper} {t : Tmp} {f : Kd → Bool} (h : waitsFor l ks o t f = true) :
    ∃ e ∈ o.after, Region.binds .any e = true ∧ (∃ x, l[e.on]? = some x ∧ x.dst = some t) ∧ ∃ k, ks[e.on]? = some k ∧ f k = true := by
  obtain ⟨e, he, hb⟩ := Array.any_eq_true'.1 h
  simp only [Bool.and_eq_true, beq_iff_eq, Option.map_eq_some_iff, decide_eq_true_eq] at hb
  exact ⟨e, he, hb.1.1, hb.1.2, hb.2⟩

theorem heap_setRow_other (w : World) (g k : Nat) (cs : Array Value) (h : k ≠ g) : (w.setRow g cs).heap[k]? = w.heap[k]? := by
  simp only [World.setRow, Array.getElem?_modify]
  rw [if_neg (fun e => h e.symm)]

theorem Rx.setRow {B g : Nat} {ty : TypeId} {w : World} {cs0 : Array Value} (hg : w.heap[g]? = some (.cells cs0 ty (0, 0))) (hB : B ≤ g) (cs : Array Value) : Rx B ty w (w.setRow g cs) := by
  refine ⟨⟨rfl, rfl, rfl, by rw [size_setRow]; exact Nat.le_refl _, fun k hk => heap_setRow_other _ _ _ _ (by omega)⟩, fun k o hk ho => ?_⟩
  by_cases he : k = g
  · subst he
    rw [hg] at hk
    exact absurd (Option.some.inj hk).symm (ho cs0)
  · rw [heap_setRow_other _ _ _ _ he]; exact hk

theorem wp_region_box {id : Nat} {a0 : Act} {w0 : World} {l : List Oper} (S : Tmp → World → Value → Prop) (I : World → Prop) (B : Nat) (ty : TypeId) (n : Nat) (As : List Tmp) (ds : List Tmp) (ks : List Kd)
    (hm : P.follows .mixedOrders = true) (hB : Region.freeB l ds a0.tmps.size = true) (hf : formAll l ks As l ks = true) (hc : crossB l ks = true) (hn : (P.info? ty).map (·.size) = some n)
    (stabS : ∀ t w w' v, S t w v → Rx B ty w w' → S t w' v) (stabI : ∀ w w', I w → Rx B ty w w' → I w') (h0 : I w0.drew) (hB0 : B ≤ w0.heap.size) (hD : Dist B As (evA a0) w0)
    (steps : BoxOps P S I B ty n ds (evA a0) l ks)
    (hend : ∀ r w', I w' → B ≤ w'.heap.size → (∀ t, t ∉ ds → r t = evA a0 t) → (∀ i, i < l.length → boxT S B ty n l ks i r w') → Dist B As r w' → Q .normal (puts r ds a0) w') :
    (Code.region id l.toArray true).wp P Q a0 w0 := by
  refine wp_region_free (boxT S B ty n l ks) (fun r w => I w ∧ B ≤ w.heap.size ∧ Dist B As r w) ds (l.map (guardOf l.toArray)) hm hB rfl ⟨h0, hB0, hD⟩ ?_ (fun r w' ho hG hT => hend r w' hG.1 hG.2.1 ho hT hG.2.2)
  have key : ∀ i o, l[i]? = some o → FreeOp P l.toArray .any (boxT S B ty n l ks) (fun r w => I w ∧ B ≤ w.heap.size ∧ Dist B As r w) ds (evA a0) i o (guardOf l.toArray o) := by
    intro i o hi r w ho hG hT
    obtain ⟨hI, hBw, hDr⟩ := hG
    obtain ⟨k, hk, hop⟩ := boxOps_get l ks steps i o hi
    have hform := formAll_get l ks hf i o k hi hk
    have hilt : i < l.length := (List.getElem?_eq_some_iff.1 hi).1
    have hwait : ∀ t f, waitsFor l ks o t f = true → ∃ x kx, x.dst = some t ∧ f kx = true ∧ boxK S B ty n x r w kx := by
      intro t f h
      obtain ⟨e, he, hb, ⟨x, hx, hxd⟩, kx, hkx, hfk⟩ := waitsFor_spec h
      exact ⟨x, kx, hxd, hfk, hT e he hb x kx hx hkx⟩
    have hcross : ∀ j, j ≠ i → NoEdge l.toArray .any j i → ∀ x kj, l[j]? = some x → ks[j]? = some kj → ∀ d, d ∈ kj.slots → o.dst ≠ some d := by
      intro j hji hno x kj hx hkj d hs hd
      have hj : j < l.length := (List.getElem?_eq_some_iff.1 hx).1
      have h1 := List.all_eq_true.1 (List.all_eq_true.1 hc i (List.mem_range.2 hilt)) j (List.mem_range.2 hj)
      have hne : (i == j) = false := by simpa using fun h => hji h.symm
      simp only [hne, Bool.false_or, hi, hkj, hd, Bool.and_eq_true, Bool.or_eq_true, Bool.not_eq_true', hx] at h1
      rcases h1.1 with h2 | h2
      · have : kj.slots.contains d = true := by simpa using hs
        rw [this] at h2; cases h2
      · obtain ⟨e, he, hb⟩ := Array.any_eq_true'.1 h2
        simp only [Bool.and_eq_true, beq_iff_eq] at hb
        exact hno x (by simpa using hx) e he hb.1 hb.2
    have stay : ∀ v w', (∀ d, o.dst = some d → d ∉ As → S d w' v) → (∀ d, o.dst = some d → d ∈ As → ∃ u, Holds B ty n w' v u) → Rx B ty w w' →
        (∀ (g : Nat) cs, w.heap[g]? = some (Obj.cells cs ty (0, 0)) → w'.heap[g]? = some (Obj.cells cs ty (0, 0))) →
        ∀ j, j ≠ i → NoEdge l.toArray .any j i → boxT S B ty n l ks j r w → boxT S B ty n l ks j (updD r o.dst v) w' := by
      intro v w' hSd hMd hrx hrow j hji hno hj x kj hx hkj
      have hfx := formAll_get l ks hf j x kj hx hkj
      have hj := hj x kj hx hkj
      have hold : ∀ p u, Holds B ty n w p u → Holds B ty n w' p u := fun p u ⟨g, cs, h1, h2, h3, h4, h5⟩ => ⟨g, cs, h1, h2, h3, h4, hrow g cs h5⟩
      cases kj with
      | plain ts g =>
        intro d hxd
        by_cases he : o.dst = some d
        · rw [he, updD_same]
          refine hSd d he fun hm => ?_
          simp only [formB, hxd, Bool.and_eq_true, Bool.not_eq_true'] at hfx
          have : As.contains d = true := by simpa using hm
          rw [this] at hfx
          exact absurd hfx.1.2 (by simp)
        · rw [updD_other _ _ he]; exact stabS _ _ _ _ (hj d hxd) hrx
      | made =>
        intro d hxd
        by_cases he : o.dst = some d
        · rw [he, updD_same]
          refine hMd d he ?_
          simp only [formB, hxd, Bool.and_eq_true] at hfx
          simpa using hfx.1
        · rw [updD_other _ _ he]
          obtain ⟨u, hu⟩ := hj d hxd
          exact ⟨u, hold _ _ hu⟩
      | store t s =>
        have h1 := hcross j hji hno x _ hx hkj
        show Holds B ty n w' (updD r o.dst v t) (updD r o.dst v s)
        rw [updD_other _ _ (h1 t (by simp [Kd.slots])), updD_other _ _ (h1 s (by simp [Kd.slots]))]
        exact hold _ _ hj
    cases k with
    | plain ts g =>
      simp only [formB, Bool.and_eq_true, decide_eq_true_eq, List.all_eq_true] at hform
      obtain ⟨⟨hts, hdA⟩, hg⟩ := hform
      rw [hg]
      have hA : AllT S r w ts := allT_of fun t ht => by
        obtain ⟨x, kx, hxd, hfk, hb⟩ := hwait t _ (hts t ht)
        cases kx with
        | plain _ _ => exact hb t hxd
        | made => cases hfk
        | store _ _ => cases hfk
      have hdA' : ∀ d, o.dst = some d → d ∉ As := fun d hd hm => by
        rw [hd] at hdA
        simp at hdA
        exact hdA hm
      have fin : ∀ v w', Below w.heap.size w w' → DstS S o.dst w' v → (I w' ∧ B ≤ w'.heap.size ∧ Dist B As (updD r o.dst v) w') ∧ boxT S B ty n l ks i (updD r o.dst v) w' ∧
          ∀ j, j ≠ i → NoEdge l.toArray .any j i → boxT S B ty n l ks j r w → boxT S B ty n l ks j (updD r o.dst v) w' := by
        intro v w' hb hd
        have hrx := Rx.of_below (ty := ty) hb hBw
        refine ⟨⟨stabI _ _ hI hrx, Nat.le_trans hBw hb.size, fun t ht g hrt => ?_⟩, fun x kx hx hkx => ?_, stay v w' (fun d he _ => by rw [he] at hd; exact hd) (fun d he hm => absurd hm (hdA' d he)) hrx (fun g cs h => (hb.block g (Array.getElem?_eq_some_iff.1 h).1).trans h)⟩
        · have hne : ∀ t' ∈ As, o.dst ≠ some t' := fun t' ht' he => hdA' t' he ht'
          rw [updD_other _ _ (hne t ht)] at hrt
          obtain ⟨h1, h2⟩ := hDr t ht g hrt
          exact ⟨Nat.lt_of_lt_of_le h1 hb.size, fun hBg t' ht' hne' => by rw [updD_other _ _ (hne t' ht')]; exact h2 hBg t' ht' hne'⟩
        · rw [hi] at hx; obtain rfl := Option.some.inj hx
          rw [hk] at hkx; obtain rfl := Option.some.inj hkx
          intro d he
          rw [he] at hd ⊢
          rw [updD_same]; exact hd
      have hstep := hop r w ho hI hBw hA
      refine ⟨fun hw => ?_, fun hw => ?_⟩
      · rcases hstep with ⟨_, hb⟩ | ⟨hn', _⟩
        · exact hb.mono fun v w' h => fin v w' h.1 h.2
        · rw [hw] at hn'; cases hn'
      · rcases hstep with ⟨hn', _⟩ | ⟨_, hd⟩
        · rw [hw] at hn'; cases hn'
        · exact fin _ _ (Below.refl _ _) hd
    | made =>
      simp only [formB, Bool.and_eq_true, decide_eq_true_eq] at hform
      obtain ⟨hdA, hg⟩ := hform
      rw [hg]
      refine ⟨fun _ => ?_, fun h => by simp [wantsOf] at h⟩
      refine (hop r w).mono ?_
      rintro v w' ⟨rfl, cs, hcs, rfl⟩
      obtain ⟨d, hd⟩ : ∃ d, o.dst = some d := by cases h : o.dst with
        | none => rw [h] at hdA; cases hdA
        | some d => exact ⟨d, rfl⟩
      rw [hd] at hdA
      have hdA : d ∈ As := by simpa using hdA
      have hb : Below w.heap.size w (w.alloc (.cells cs ty)) := (Below.refl _ _).alloc (Nat.le_refl _) _
      have hrx := Rx.of_below (ty := ty) hb hBw
      have hnew : Holds B ty n (w.alloc (.cells cs ty)) (.pointer (some ⟨w.heap.size, 0, none⟩)) (.agg cs) := ⟨w.heap.size, cs, rfl, hBw, rfl, hcs, heap_alloc_new w _⟩
      refine ⟨⟨stabI _ _ hI hrx, Nat.le_trans hBw hb.size, fun t ht g hrt => ?_⟩, fun x kx hx hkx => ?_, stay _ _ (fun e he hn' => ?_) (fun e he _ => ⟨_, hnew⟩) hrx (fun g cs h => (hb.block g (Array.getElem?_eq_some_iff.1 h).1).trans h)⟩
      · have hsz : (w.alloc (.cells cs ty)).heap.size = w.heap.size + 1 := by show (w.heap.push _).size = _; simp
        rw [hd] at hrt ⊢
        rw [hsz]
        by_cases htd : d = t
        · subst htd
          rw [updD_same] at hrt
          obtain rfl : w.heap.size = g := by injection hrt with h; injection h with h; injection h
          refine ⟨Nat.lt_succ_self _, fun _ t' ht' hne' => ?_⟩
          rw [updD_other _ _ (fun h => hne' (Option.some.inj h).symm)]
          intro h
          exact Nat.lt_irrefl _ (hDr t' ht' _ h).1
        · rw [updD_other _ _ (fun h => htd (Option.some.inj h))] at hrt
          obtain ⟨h1, h2⟩ := hDr t ht g hrt
          refine ⟨Nat.lt_succ_of_lt h1, fun hBg t' ht' hne' => ?_⟩
          by_cases htd' : d = t'
          · subst htd'
            rw [updD_same]
            intro h
            have : w.heap.size = g := by injection h with h; injection h with h; injection h
            omega
          · rw [updD_other _ _ (fun h => htd' (Option.some.inj h))]
            exact h2 hBg t' ht' hne'
      · rw [hi] at hx; obtain rfl := Option.some.inj hx
        rw [hk] at hkx; obtain rfl := Option.some.inj hkx
        intro e he
        rw [he, updD_same]
        exact ⟨_, hnew⟩
      · rw [hd] at he
        exact absurd (Option.some.inj he ▸ hdA) hn'
    | store t s =>
      simp only [formB, Bool.and_eq_true, decide_eq_true_eq] at hform
      obtain ⟨⟨⟨⟨htA, hwt⟩, hws⟩, hg⟩, hdst⟩ := hform
      have htA : t ∈ As := by simpa using htA
      obtain ⟨hopr, hval⟩ := hop
      rw [hg, hdst]
      refine ⟨fun _ => ?_, fun h => by simp [wantsOf] at h⟩
      have hupd : ∀ v, updD r none v = r := fun v => by funext t; simp [updD]
      simp only [hupd]
      obtain ⟨u, g, cs0, hrt, hBg, -, hcs0, hrow⟩ : ∃ u, Holds B ty n w (r t) u := by
        obtain ⟨x, kx, hxd, hfk, hb⟩ := hwait t _ hwt
        cases kx with
        | plain _ _ => cases hfk
        | made => exact hb t hxd
        | store _ _ => cases hfk
      obtain ⟨cs, hrs, hcs, h1⟩ : ∃ cs, r s = .agg cs ∧ cs.size = n ∧ cs.all (·.oneCell') = true := by
        obtain ⟨x, kx, hxd, hfk, hb⟩ := hwait s _ hws
        cases kx with
        | plain _ _ => exact hval _ _ (hb s hxd)
        | made => cases hfk
        | store _ _ => cases hfk
      have hrun : (execOp (evalOf r) o).run P w = .ok .skip (w.setRow g cs) := by
        have e1 : evalOf r (.tmp t) = .pointer (some ⟨g, 0, none⟩) := hrt
        have e2 : evalOf r (.tmp s) = .agg cs := hrs
        have hst := run_storeVar_row (P := P) w g ty ty cs0 cs hrow (by rw [hcs]; exact hn) (by omega) h1
        simp only [execOp, hopr, e1, e2, Instr.storeAt, Instr.sureAddr, Sem.run_bind, Sem.run_pure, Result.andThen_ok, hst]
      have hrx := Rx.setRow hrow hBg cs
      have hnew : Holds B ty n (w.setRow g cs) (r t) (r s) := ⟨g, cs, hrt, hBg, hrs, hcs, setRow_heap w g cs0 cs ty _ hrow⟩
      unfold Brings
      rw [hrun]
      refine ⟨⟨stabI _ _ hI hrx, by rw [size_setRow]; exact hBw, fun t1 ht1 g1 hr1 => by rw [size_setRow]; exact hDr t1 ht1 g1 hr1⟩, fun x kx hx hkx => ?_, fun j hji _ hj x kj hx hkj => ?_⟩
      · rw [hk] at hkx; obtain rfl := Option.some.inj hkx
        exact hnew
      · have hfx := formAll_get l ks hf j x kj hx hkj
        have hj := hj x kj hx hkj
        have hold : ∀ p u, (p ≠ .pointer (some ⟨g, 0, none⟩)) → Holds B ty n w p u → Holds B ty n (w.setRow g cs) p u := fun p u hp ⟨g1, cs1, q1, q2, q3, q4, q5⟩ =>
          ⟨g1, cs1, q1, q2, q3, q4, by rw [heap_setRow_other _ _ _ _ (fun h => hp (by rw [q1, h]))]; exact q5⟩
        cases kj with
        | plain ts gg => exact fun d hxd => stabS _ _ _ _ (hj d hxd) hrx
        | made =>
          intro d hxd
          obtain ⟨u1, hu⟩ := hj d hxd
          by_cases he : r d = .pointer (some ⟨g, 0, none⟩)
          · exact ⟨.agg cs, g, cs, he, hBg, rfl, hcs, setRow_heap w g cs0 cs ty _ hrow⟩
          · exact ⟨u1, hold _ _ he hu⟩
        | store t1 s1 =>
          have hjlt : j < l.length := (List.getElem?_eq_some_iff.1 hx).1
          have h2 := List.all_eq_true.1 (List.all_eq_true.1 hc i (List.mem_range.2 hilt)) j (List.mem_range.2 hjlt)
          have hne : (i == j) = false := by simpa using fun h => hji h.symm
          simp only [hne, Bool.false_or, hk, hkj, Bool.and_eq_true, decide_eq_true_eq] at h2
          have ht1 : t1 ∈ As := by
            simp only [formB, Bool.and_eq_true] at hfx
            simpa using hfx.1.1.1.1
          exact hold _ _ ((hDr t htA g hrt).2 hBg t1 ht1 (fun h => h2.2 h.symm)) hj
  have all : ∀ (os : List Oper) (k : Nat), (∀ j o, os[j]? = some o → l[k + j]? = some o) → FreeOps P l.toArray .any (boxT S B ty n l ks) (fun r w => I w ∧ B ≤ w.heap.size ∧ Dist B As r w) ds (evA a0) k os (os.map (guardOf l.toArray)) := by
    intro os
    induction os with
    | nil => intro k _; trivial
    | cons o os ih =>
      intro k h
      exact ⟨key k o (by simpa using h 0 o (by simp)), ih (k + 1) fun j x hj => by have := h (j + 1) x (by simpa using hj); rwa [show k + (j + 1) = k + 1 + j by omega] at this⟩
  exact all l 0 fun j o h => by rwa [Nat.zero_add]
end
end Go.Proofs.YthlpfhenaakljaaGreatDoor

namespace Go.Proofs.YthlpfhenaakljaaGreatDoor
open Go.RowKit

/-- Rows of words from block B on alone may have been written over; their sizes stay. -/
structure Fr (B : Nat) (w w' : World) : Prop where
  bel : Below B w w'
  row : ∀ (g : Nat) (cs : Array Value) (t : TypeId) (f : Nat × Nat), w.heap[g]? = some (.cells cs t f) → ∃ cs' : Array Value, w'.heap[g]? = some (.cells cs' t f) ∧ cs'.size = cs.size ∧ (t ≠ 43 → cs' = cs)

theorem Fr.refl (B : Nat) (w : World) : Fr B w w := ⟨Below.refl _ _, fun _ cs _ _ h => ⟨cs, h, rfl, fun _ => rfl⟩⟩
theorem Fr.trans {B : Nat} {a b c : World} (h : Fr B a b) (k : Fr B b c) : Fr B a c :=
  ⟨h.bel.trans k.bel, fun g cs t f hg => by
    obtain ⟨cs1, h1, h2, h3⟩ := h.row g cs t f hg
    obtain ⟨cs2, k1, k2, k3⟩ := k.row g cs1 t f h1
    exact ⟨cs2, k1, k2.trans h2, fun ht => (k3 ht).trans (h3 ht)⟩⟩
theorem Fr.of_below {B : Nat} {w w' : World} (h : Below w.heap.size w w') (hB : B ≤ w.heap.size) : Fr B w w' :=
  ⟨h.mono hB, fun g cs _ _ hg => ⟨cs, (h.block g (heap_lt hg)).trans hg, rfl, fun _ => rfl⟩⟩
theorem Fr.setCell {B g k : Nat} {w : World} {cur : Array Value} {u : Value} (hg : w.heap[g]? = some (.cells cur 43 (0, 0))) (hB : B ≤ g) : Fr B w (w.setCell ⟨g, k, none⟩ u) :=
  ⟨(Below.refl _ _).setCell hB _, fun g2 cs t f h2 => by
    by_cases he : g2 = g
    · subst he
      rw [hg] at h2
      injection h2 with h2
      injection h2 with e1 e2 e3
      subst e1 e2 e3
      exact ⟨_, heap_setCell_same _ g2 k cur _ u hg, by simp, fun h => absurd rfl h⟩
    · exact ⟨cs, by rw [heap_setCell_other _ _ _ _ he]; exact h2, rfl, fun _ => rfl⟩⟩
theorem Fr.other {B g : Nat} {w w' : World} {cs : Array Value} {t : TypeId} {f : Nat × Nat} (h : Fr B w w') (hg : w.heap[g]? = some (.cells cs t f)) (ht : t ≠ 43) : w'.heap[g]? = some (.cells cs t f) := by
  obtain ⟨cs', h1, _, h3⟩ := h.row g cs t f hg
  rw [h1, h3 ht]

/-- Words that may be written over: n of them. -/
def SpU (B n : Nat) (w : World) (v : Value) : Prop :=
  (∃ c, v = .slice none 0 c ∧ n = 0) ∨ ∃ g c cur, v = .slice (some ⟨g, 0, none⟩) n c ∧ B ≤ g ∧ w.heap[g]? = some (.cells cur 43 (0, 0)) ∧ n ≤ cur.size

theorem No.spu {B : Nat} {w : World} {v : Value} {xs : List Nat} (h : No B w v xs) : SpU B xs.length w v := by
  obtain ⟨_, _, h⟩ := h
  rcases h with ⟨rfl, h0⟩ | ⟨g, cap, cur, rfl, hb, hg, hn, _, hs, _⟩
  · exact .inl ⟨0, rfl, h0⟩
  · exact .inr ⟨g, cap, cur, rfl, hb, hg, by omega⟩

theorem SpU.fr {B C n : Nat} {w w' : World} {v : Value} (h : SpU B n w v) (hf : Fr C w w') : SpU B n w' v := by
  rcases h with h | ⟨g, c, cur, rfl, hb, hg, hn⟩
  · exact .inl h
  · obtain ⟨cs', h1, h2, _⟩ := hf.row g cur _ _ hg
    exact .inr ⟨g, c, cs', rfl, hb, h1, by omega⟩
theorem SpU.mono {B C n : Nat} {w : World} {v : Value} (h : SpU B n w v) (hC : C ≤ B) : SpU C n w v := by
  rcases h with h | ⟨g, c, cur, rfl, hb, hg, hn⟩
  · exact .inl h
  · exact .inr ⟨g, c, cur, rfl, Nat.le_trans hC hb, hg, hn⟩
theorem SpU.slice {B n : Nat} {w : World} {v : Value} (h : SpU B n w v) : ∃ a c, v = .slice a n c := by
  rcases h with ⟨c, rfl, rfl⟩ | ⟨g, c, cur, rfl, _⟩
  · exact ⟨none, c, rfl⟩
  · exact ⟨_, c, rfl⟩

/-- In the loops of spoil. -/
structure SpSu (w : World) (B j1 : Nat) (cs : Array Value) (n1 n2 : Nat) (v1 v2 : Value) (wr : World) : Prop where
  fr : Fr B w wr
  box : wr.heap[j1]? = some (.cells cs 27 (0, 0))
  s1 : SpU B n1 wr v1
  s2 : SpU B n2 wr v2

theorem SpSu.set {w wr : World} {B j1 g k : Nat} {cs : Array Value} {n1 n2 : Nat} {v1 v2 u : Value} {cur : Array Value} (h : SpSu w B j1 cs n1 n2 v1 v2 wr) (hg : wr.heap[g]? = some (.cells cur 43 (0, 0))) (hB : B ≤ g) :
    SpSu w B j1 cs n1 n2 v1 v2 (wr.setCell ⟨g, k, none⟩ u) :=
  have hf := Fr.setCell (k := k) (u := u) hg hB
  ⟨h.fr.trans hf, hf.other h.box (by decide), h.s1.fr hf, h.s2.fr hf⟩

theorem row_ne {w : World} {g1 g2 : Nat} {c1 c2 : Array Value} {t1 t2 : TypeId} {f1 f2 : Nat × Nat} (h1 : w.heap[g1]? = some (.cells c1 t1 f1)) (h2 : w.heap[g2]? = some (.cells c2 t2 f2)) (hne : t1 ≠ t2) : g1 ≠ g2 := by
  rintro rfl
  rw [h1] at h2
  injection h2 with h2
  injection h2 with e1 e2 e3
  exact hne e2

set_option maxHeartbeats 1600000 in
theorem spoil2_calls (b : Bool) (v1 v2 : Value) (n1 n2 : Nat) (B : Nat) (w : World) (h1 : SpU B n1 w v1) (h2 : SpU B n2 w v2) (hB : B ≤ w.heap.size) (l1 : n1 ≤ 4611686018427387904) (l2 : n2 ≤ 4611686018427387904) :
    Calls Tryz.prog 19 #[.agg #[.bool b, v1, v2]] w (fun e w' => e = .returned (.tuple #[]) ∧ Fr B w w') := by
  obtain ⟨a1, c1, rfl⟩ := h1.slice
  obtain ⟨a2, c2, rfl⟩ := h2.slice
  have hal : Fr B w (w.alloc (.cells #[.bool b, .slice a1 n1 c1, .slice a2 n2 c2] 27)) := Fr.of_below ((Below.refl _ _).alloc (Nat.le_refl _) _) hB
  have HST := Lib.hid (show SpSu w B w.heap.size #[.bool b, .slice a1 n1 c1, .slice a2 n2 c2] n1 n2 (.slice a1 n1 c1) (.slice a2 n2 c2) (w.alloc (.cells #[.bool b, .slice a1 n1 c1, .slice a2 n2 c2] 27)) from
    ⟨hal, heap_alloc_new _ _, h1.fr hal, h2.fr hal⟩)
  clear h1 h2 hB hal
  go_enter Tryz.func19, Tryz.ntmps19
  go_upto_region 1 with fail
  generalize w.alloc (.cells #[.bool b, .slice a1 n1 c1, .slice a2 n2 c2] 27) = W at *
  generalize w.heap.size = j1 at *
  go_wp2_with fail
  go_loopw [2] (fun s wr => ∃ k : Nat, k ≤ n1 ∧ s = .int .i64 k ∧ Hid (SpSu w B j1 #[.bool b, .slice a1 n1 c1, .slice a2 n2 c2] n1 n2 (.slice a1 n1 c1) (.slice a2 n2 c2) wr)) (fun s _ => n1 - (intOf s).toNat)
  case atStart => exact ⟨0, Nat.zero_le _, rfl, HST⟩
  case round =>
    clear HST
    obtain ⟨k, hk, rfl, HST⟩ := hrel
    have x0 := cell_of_row _ _ 0 _ _ (0, 0) HST.out.box
    have x1 := cell_of_row _ _ 1 _ _ (0, 0) HST.out.box
    have x2 := cell_of_row _ _ 2 _ _ (0, 0) HST.out.box
    by_cases hkn : k < n1
    · rcases HST.out.s1 with ⟨c, he, h0⟩ | ⟨g, c, cur, he, hBg, hh, hn⟩
      · omega
      obtain ⟨rfl, -, rfl⟩ := Value.slice.inj he
      have hgj : j1 ≠ g := row_ne HST.out.box hh (by decide)
      obtain ⟨u, hu⟩ : ∃ u, cur[k]? = some u := ⟨cur[k]'(by omega), Array.getElem?_eq_getElem (by omega)⟩
      have hc := cell_of_row _ _ k _ _ (0, 0) hh
      rw [hu] at hc
      have hf := frozen_of_row _ _ k _ _ hh
      have HS2 := Lib.hid (fun u => HST.out.set (k := k) (u := u) hh hBg)
      have hkn2 : (k : Int) < n1 := by omega
      clear he hu hh
      go_wp2_with fail
      go_roundw
      case rel => exact ⟨k + 1, hkn, by go_num, Lib.hid (HS2.out _)⟩
      case measure => simp only [intOf]; omega
    · have hkn2 : ¬ ((k : Int) < n1) := by omega
      clear x0 x1 x2
      have x0 := cell_of_row _ _ 0 _ _ (0, 0) HST.out.box
      have x1 := cell_of_row _ _ 1 _ _ (0, 0) HST.out.box
      have x2 := cell_of_row _ _ 2 _ _ (0, 0) HST.out.box
      go_wp2_with fail
      go_loopw [3] (fun s wr => ∃ k : Nat, k ≤ n2 ∧ s = .int .i64 k ∧ Hid (SpSu w B j1 #[.bool b, .slice a1 n1 c1, .slice a2 n2 c2] n1 n2 (.slice a1 n1 c1) (.slice a2 n2 c2) wr)) (fun s _ => n2 - (intOf s).toNat)
      case atStart => exact ⟨0, Nat.zero_le _, rfl, HST⟩
      case round =>
        clear HST x0 x1 x2
        obtain ⟨k2, hk2, rfl, HST⟩ := hrel
        have x0 := cell_of_row _ _ 0 _ _ (0, 0) HST.out.box
        have x1 := cell_of_row _ _ 1 _ _ (0, 0) HST.out.box
        have x2 := cell_of_row _ _ 2 _ _ (0, 0) HST.out.box
        by_cases hkm : k2 < n2
        · rcases HST.out.s2 with ⟨c, he, h0⟩ | ⟨g, c, cur, he, hBg, hh, hn⟩
          · omega
          obtain ⟨rfl, -, rfl⟩ := Value.slice.inj he
          have hgj : j1 ≠ g := row_ne HST.out.box hh (by decide)
          obtain ⟨u, hu⟩ : ∃ u, cur[k2]? = some u := ⟨cur[k2]'(by omega), Array.getElem?_eq_getElem (by omega)⟩
          have hc := cell_of_row _ _ k2 _ _ (0, 0) hh
          rw [hu] at hc
          have hf := frozen_of_row _ _ k2 _ _ hh
          have HS2 := Lib.hid (fun u => HST.out.set (k := k2) (u := u) hh hBg)
          have hkm2 : (k2 : Int) < n2 := by omega
          clear he hu hh
          go_wp2_with fail
          go_roundw
          case rel => exact ⟨k2 + 1, hkm, by go_num, Lib.hid (HS2.out _)⟩
          case measure => simp only [intOf]; omega
        · have hkm2 : ¬ ((k2 : Int) < n2) := by omega
          go_wp2_with fail
          refine bodyPost_end (results_none rfl _ _ _) rfl ?_
          exact ⟨rfl, HST.out.fr⟩

end Go.Proofs.YthlpfhenaakljaaGreatDoor

namespace Go.Proofs.YthlpfhenaakljaaGreatDoor
open Go.RowKit

abbrev PR := Int × Nat
def addP (a b : Tq) : PR := (nrm (zQ a * (dQ b : Int) + zQ b * (dQ a : Int)) (dQ a * dQ b), nrd (zQ a * (dQ b : Int) + zQ b * (dQ a : Int)) (dQ a * dQ b))
def subP (a b : Tq) : PR := (nrm (zQ a * (dQ b : Int) + -zQ b * (dQ a : Int)) (dQ a * dQ b), nrd (zQ a * (dQ b : Int) + -zQ b * (dQ a : Int)) (dQ a * dQ b))
def mulP (a b : Tq) : PR := (nrm (zQ a * zQ b) (dQ a * dQ b), nrd (zQ a * zQ b) (dQ a * dQ b))
def negP (a : Tq) : PR := (-zQ a, dQ a)
def quoP (a b : Tq) : PR := if zQ b = 0 then (0, 0) else
  (nrm (sgn (!(decide (zQ a < 0) == decide (zQ b < 0))) ((zQ a).natAbs * dQ b)) (dQ a * (zQ b).natAbs), nrd (sgn (!(decide (zQ a < 0) == decide (zQ b < 0))) ((zQ a).natAbs * dQ b)) (dQ a * (zQ b).natAbs))
def quoE (b : Tq) : Int := if zQ b = 0 then 7 else 0
def cmpP (a b : Tq) : Int := cmpI (zQ a * (dQ b : Int)) (zQ b * (dQ a : Int))

/-- No more limbs than these. -/
def Len (p : PR) : Prop := (Dg.db B64 p.1.natAbs).length ≤ 1048576 ∧ (Dg.db B64 p.2).length ≤ 1048576

theorem dd_len {a b : Tq} (ha : Six a) (hb : Six b) : (Dg.db B64 (dQ a * dQ b)).length ≤ 14 := db_mul_len ha.d hb.d
theorem len_add {a b : Tq} (ha : Six a) (hb : Six b) : Len (addP a b) :=
  ⟨Nat.le_trans (nrm_len (sum_len (by_len ha.z hb.d) (by_len hb.z ha.d))) (by decide), Nat.le_trans (nrd_len (dd_len ha hb) (by decide)) (by decide)⟩
theorem len_sub {a b : Tq} (ha : Six a) (hb : Six b) : Len (subP a b) :=
  ⟨Nat.le_trans (nrm_len (sum_len (by_len ha.z hb.d) (by_len (by rw [Int.natAbs_neg]; exact hb.z) ha.d))) (by decide), Nat.le_trans (nrd_len (dd_len ha hb) (by decide)) (by decide)⟩
theorem len_mul {a b : Tq} (ha : Six a) (hb : Six b) : Len (mulP a b) :=
  ⟨Nat.le_trans (nrm_len (p := 14) (by rw [Int.natAbs_mul]; exact db_mul_len ha.z hb.z)) (by decide), Nat.le_trans (nrd_len (dd_len ha hb) (by decide)) (by decide)⟩
theorem len_neg {a : Tq} (ha : Six a) : Len (negP a) :=
  ⟨Nat.le_trans (by show (Dg.db B64 (-zQ a).natAbs).length ≤ 7; rw [Int.natAbs_neg]; exact ha.z) (by decide), Nat.le_trans ha.d (by decide)⟩
theorem len_quo {a b : Tq} (ha : Six a) (hb : Six b) : Len (quoP a b) := by
  unfold quoP
  split
  · exact ⟨by show (Dg.db B64 0).length ≤ _; rw [Dg.db_zero]; decide, by show (Dg.db B64 0).length ≤ _; rw [Dg.db_zero]; decide⟩
  · exact ⟨Nat.le_trans (nrm_len (p := 14) (by rw [sgn_abs]; exact db_mul_len ha.z hb.d)) (by decide), Nat.le_trans (nrd_len (p := 14) (db_mul_len ha.d hb.z) (by decide)) (by decide)⟩
theorem len_sum {qs : List Tq} (hs : ∀ q ∈ qs, Six q) (hl : qs.length ≤ 6) : Len (sumQ qs) := by
  have h := sumQ_bnd hs qs.length (Nat.le_refl _)
  rw [List.take_length] at h
  exact ⟨Nat.le_trans h.1 (by omega), Nat.le_trans h.2.1 (by omega)⟩

section
variable {w : World} {va vb : Value} {a b : Tq} (ha : Qv w va a) (hb : Qv w vb b) (sa : Six a) (sb : Six b)
include ha hb sa sb
theorem radd_q : Calls Tryz.prog 8 #[va, vb] w (RetR (addP a b).1 (addP a b).2 w) := by
  obtain ⟨m1, m2, rfl, h1, h2⟩ := ha
  obtain ⟨m3, m4, rfl, h3, h4⟩ := hb
  exact radd_calls _ _ _ _ _ _ _ _ _ _ _ _ _ _ w h1 h2 h3 h4 (Nat.le_trans sa.2.2.1 (by decide)) (Nat.le_trans sa.2.2.2 (by decide)) (Nat.le_trans sb.2.2.1 (by decide)) (Nat.le_trans sb.2.2.2 (by decide)) rfl rfl rfl rfl
theorem rsub_q : Calls Tryz.prog 9 #[va, vb] w (RetR (subP a b).1 (subP a b).2 w) := by
  obtain ⟨m1, m2, rfl, h1, h2⟩ := ha
  obtain ⟨m3, m4, rfl, h3, h4⟩ := hb
  exact rsub_calls _ _ _ _ _ _ _ _ _ _ _ _ _ _ w h1 h2 h3 h4 (Nat.le_trans sa.2.2.1 (by decide)) (Nat.le_trans sa.2.2.2 (by decide)) (Nat.le_trans sb.2.2.1 (by decide)) (Nat.le_trans sb.2.2.2 (by decide)) rfl rfl rfl rfl
theorem rmul_q : Calls Tryz.prog 10 #[va, vb] w (RetR (mulP a b).1 (mulP a b).2 w) := by
  obtain ⟨m1, m2, rfl, h1, h2⟩ := ha
  obtain ⟨m3, m4, rfl, h3, h4⟩ := hb
  exact rmul_calls _ _ _ _ _ _ _ _ _ _ _ _ _ _ w h1 h2 h3 h4 (Nat.le_trans sa.2.2.1 (by decide)) (Nat.le_trans sa.2.2.2 (by decide)) (Nat.le_trans sb.2.2.1 (by decide)) (Nat.le_trans sb.2.2.2 (by decide)) rfl rfl rfl rfl
theorem add6_q : Calls Tryz.prog 14 #[va, vb] w (RetR (addP a b).1 (addP a b).2 w) := by
  obtain ⟨m1, m2, rfl, h1, h2⟩ := ha
  obtain ⟨m3, m4, rfl, h3, h4⟩ := hb
  exact add6_calls _ _ _ _ _ _ _ _ _ _ _ _ _ _ w h1 h2 h3 h4 (Nat.le_trans sa.2.2.1 (by decide)) (Nat.le_trans sa.2.2.2 (by decide)) (Nat.le_trans sb.2.2.1 (by decide)) (Nat.le_trans sb.2.2.2 (by decide)) rfl rfl rfl rfl
theorem sub6_q : Calls Tryz.prog 15 #[va, vb] w (RetR (subP a b).1 (subP a b).2 w) := by
  obtain ⟨m1, m2, rfl, h1, h2⟩ := ha
  obtain ⟨m3, m4, rfl, h3, h4⟩ := hb
  exact sub6_calls _ _ _ _ _ _ _ _ _ _ _ _ _ _ w h1 h2 h3 h4 (Nat.le_trans sa.2.2.1 (by decide)) (Nat.le_trans sa.2.2.2 (by decide)) (Nat.le_trans sb.2.2.1 (by decide)) (Nat.le_trans sb.2.2.2 (by decide)) rfl rfl rfl rfl
theorem mul6_q : Calls Tryz.prog 16 #[va, vb] w (RetR (mulP a b).1 (mulP a b).2 w) := by
  obtain ⟨m1, m2, rfl, h1, h2⟩ := ha
  obtain ⟨m3, m4, rfl, h3, h4⟩ := hb
  exact mul6_calls _ _ _ _ _ _ _ _ _ _ _ _ _ _ w h1 h2 h3 h4 (Nat.le_trans sa.2.2.1 (by decide)) (Nat.le_trans sa.2.2.2 (by decide)) (Nat.le_trans sb.2.2.1 (by decide)) (Nat.le_trans sb.2.2.2 (by decide)) rfl rfl rfl rfl
theorem cmp6_q : Calls Tryz.prog 20 #[va, vb] w (fun e w' => e = .returned (.int .i64 (cmpP a b)) ∧ Below w.heap.size w w') := by
  obtain ⟨m1, m2, rfl, h1, h2⟩ := ha
  obtain ⟨m3, m4, rfl, h3, h4⟩ := hb
  exact cmp6_calls _ _ _ _ _ _ _ _ _ _ _ _ _ _ w h1 h2 h3 h4 (Nat.le_trans sa.2.2.1 (by decide)) (Nat.le_trans sa.2.2.2 (by decide)) (Nat.le_trans sb.2.2.1 (by decide)) (Nat.le_trans sb.2.2.2 (by decide)) rfl rfl rfl rfl
theorem rcmp_q : Calls Tryz.prog 21 #[va, vb] w (fun e w' => e = .returned (.int .i64 (cmpP a b)) ∧ Below w.heap.size w w') := by
  obtain ⟨m1, m2, rfl, h1, h2⟩ := ha
  obtain ⟨m3, m4, rfl, h3, h4⟩ := hb
  exact rcmp_calls _ _ _ _ _ _ _ _ _ _ _ _ _ _ w h1 h2 h3 h4 (Nat.le_trans sa.2.2.1 (by decide)) (Nat.le_trans sa.2.2.2 (by decide)) (Nat.le_trans sb.2.2.1 (by decide)) (Nat.le_trans sb.2.2.2 (by decide)) rfl rfl rfl rfl
theorem rsame_q : Calls Tryz.prog 22 #[va, vb] w (fun e w' => e = .returned (.bool (cmpP a b == 0)) ∧ Below w.heap.size w w') := by
  obtain ⟨m1, m2, rfl, h1, h2⟩ := ha
  obtain ⟨m3, m4, rfl, h3, h4⟩ := hb
  exact rsame_calls _ _ _ _ _ _ _ _ _ _ _ _ _ _ w h1 h2 h3 h4 (Nat.le_trans sa.2.2.1 (by decide)) (Nat.le_trans sa.2.2.2 (by decide)) (Nat.le_trans sb.2.2.1 (by decide)) (Nat.le_trans sb.2.2.2 (by decide)) rfl rfl rfl rfl

omit hb sb in
theorem rneg_q : Calls Tryz.prog 11 #[va] w (RetR (negP a).1 (negP a).2 w) := by
  obtain ⟨m1, m2, rfl, h1, h2⟩ := ha
  exact rneg_calls _ _ _ _ _ w h1 h2 (Nat.le_trans sa.2.2.1 (by decide)) (Nat.le_trans sa.2.2.2 (by decide)) (Nat.le_trans sa.z (by decide))
omit hb sb in
theorem neg6_q : Calls Tryz.prog 17 #[va] w (RetR (negP a).1 (negP a).2 w) := by
  obtain ⟨m1, m2, rfl, h1, h2⟩ := ha
  exact neg6_calls _ _ _ _ _ w h1 h2 (Nat.le_trans sa.2.2.1 (by decide)) (Nat.le_trans sa.2.2.2 (by decide)) (Nat.le_trans sa.z (by decide))
end

/-- A quotient is told, or there is none. -/
def RetQt (p : PR) (er : Int) (w : World) (e : Ending) (w' : World) : Prop := ∃ v, e = .returned (.tuple #[v, .int .i64 er]) ∧ RR p.1 p.2 w.heap.size w' v ∧ Below w.heap.size w w'

theorem rr_zero (B : Nat) (w : World) : RR 0 0 B w (.agg #[.bool false, .slice none 0 0, .slice none 0 0]) := by
  refine ⟨_, _, rfl, ?_, ?_⟩
  · show No B w _ (Dg.db B64 0); rw [Dg.db_zero]; exact No.nil _ _
  · rw [Dg.db_zero]; exact No.nil _ _

theorem RetQuo.t {a b : Tq} {w : World} {e : Ending} {w' : World} (h : RetQuo (zQ a) (dQ a) (zQ b) (dQ b) w e w') : RetQt (quoP a b) (quoE b) w e w' := by
  obtain ⟨hb, h0, h1⟩ := h
  unfold quoP quoE
  by_cases hz : zQ b = 0
  · rw [if_pos hz, if_pos hz]
    exact ⟨_, h0 hz, rr_zero _ _, hb⟩
  · rw [if_neg hz, if_neg hz]
    obtain ⟨v, he, hr⟩ := h1 hz
    exact ⟨v, he, hr, hb⟩

theorem rquo_q {w : World} {va vb : Value} {a b : Tq} (ha : Qv w va a) (hb : Qv w vb b) (sa : Six a) (sb : Six b) : Calls Tryz.prog 7 #[va, vb] w (RetQt (quoP a b) (quoE b) w) := by
  obtain ⟨m1, m2, rfl, h1, h2⟩ := ha
  obtain ⟨m3, m4, rfl, h3, h4⟩ := hb
  by_cases hz : zQ b = 0
  · exact (rquo0_calls _ _ _ _ _ _ _ _ _ _ (zQ a) (zQ b) (dQ a) (dQ b) w h1 h2 h3 h4 (Nat.le_trans sa.2.2.1 (by decide)) (Nat.le_trans sa.2.2.2 (by decide)) (Nat.le_trans sb.2.2.1 (by decide)) (Nat.le_trans sb.2.2.2 (by decide)) rfl rfl rfl rfl hz).mono fun _ _ h => h.t
  · exact (rquo1_calls _ _ _ _ _ _ _ _ _ _ (zQ a) (zQ b) (dQ a) (dQ b) w h1 h2 h3 h4 (Nat.le_trans sa.2.2.1 (by decide)) (Nat.le_trans sa.2.2.2 (by decide)) (Nat.le_trans sb.2.2.1 (by decide)) (Nat.le_trans sb.2.2.2 (by decide)) rfl rfl rfl rfl hz).mono fun _ _ h => h.t
theorem quo6_q {w : World} {va vb : Value} {a b : Tq} (ha : Qv w va a) (hb : Qv w vb b) (sa : Six a) (sb : Six b) : Calls Tryz.prog 6 #[va, vb] w (RetQt (quoP a b) (quoE b) w) := by
  obtain ⟨m1, m2, rfl, h1, h2⟩ := ha
  obtain ⟨m3, m4, rfl, h3, h4⟩ := hb
  exact (quo6_calls _ _ _ _ _ _ _ _ _ _ (zQ a) (zQ b) (dQ a) (dQ b) w h1 h2 h3 h4 (Nat.le_trans sa.2.2.1 (by decide)) (Nat.le_trans sa.2.2.2 (by decide)) (Nat.le_trans sb.2.2.1 (by decide)) (Nat.le_trans sb.2.2.2 (by decide)) rfl rfl rfl rfl).mono fun _ _ h => h.t

theorem is_q {w : World} {v1 v2 : Value} {p : PR} (h1 : Fv w v1 p.1 p.2) (h2 : Fv w v2 p.1 p.2) (hl : Len p) :
    Calls Tryz.prog 13 #[v1, v2] w (fun e w' => e = .returned (.bool true) ∧ Below w.heap.size w w') := is_f v1 v2 _ _ w h1 h2 hl.1 hl.2

theorem six_of {q : Tq} {w : World} {v : Value} (h : Qv w v q) (hq : longQ q = false) : Six q := by
  obtain ⟨_, _, _, h1, h2⟩ := h
  unfold longQ at hq
  simp only [Bool.or_eq_false_iff, decide_eq_false_iff_not, Nat.not_lt] at hq
  exact ⟨h1.1, h2.1, hq.1, hq.2⟩

theorem six_all {ql : List Tq} {w : World} {v : Value} (h : Lv w v ql) (hq : ql.any longQ = false) : ∀ q ∈ ql, Six q := by
  intro q hm
  obtain ⟨i, hi, rfl⟩ := List.getElem_of_mem hm
  have hl : longQ ql[i] = false := by simpa using List.any_eq_false.1 hq _ hm
  obtain ⟨a, cap, _, _, hr⟩ := h
  rcases hr with rfl | ⟨b, off, rfl, hlt, hc⟩
  · simp at hi
  · obtain ⟨m1, m2, _, _, _, h1, h2⟩ := hc i _ (List.getElem?_eq_getElem hi)
    unfold longQ at hl
    simp only [Bool.or_eq_false_iff, decide_eq_false_iff_not, Nat.not_lt] at hl
    exact ⟨h1.1, h2.1, hl.1, hl.2⟩

end Go.Proofs.YthlpfhenaakljaaGreatDoor

namespace Go.Proofs.YthlpfhenaakljaaGreatDoor
open Go.RowKit

/-- What is said of a slot, where the fractions own their limbs from block B on. -/
inductive Su where
  | val (v : Value)
  | rr (p : PR)
  | any
def Su.holds (B : Nat) : Su → World → Value → Prop
  | .val u, _, v => v = u
  | .rr p, w, v => RR p.1 p.2 B w v
  | .any, _, _ => True
def suOf (B : Nat) (L : List (Nat × Su)) (t : Tmp) (w : World) (v : Value) : Prop := ((L.lookup t).getD .any).holds B w v

theorem ownsRow_rx {B C e s n : Nat} {w w' : World} {v : Value} {xs : List Value} (h : w.ownsRow B e s v n xs) (hne : e ≠ 27) (hr : Rx C 27 w w') : w'.ownsRow B e s v n xs := by
  refine ⟨h.1, ?_⟩
  rcases h.2 with hn | ⟨g, cap', cur, hv, hbg, hg, r⟩
  · exact .inl hn
  · exact .inr ⟨g, cap', cur, hv, hbg, hr.keep g _ hg (fun cs h => by injection h with h1 h2 h3; exact hne h2), r⟩

theorem RR.rx {z : Int} {d B C : Nat} {w w' : World} {v : Value} (h : RR z d B w v) (hr : Rx C 27 w w') : RR z d B w' v := by
  obtain ⟨vn, vd, rfl, h1, h2⟩ := h
  exact ⟨vn, vd, rfl, ⟨h1.1, ownsRow_rx h1.2 (by decide) hr⟩, ⟨h2.1, ownsRow_rx h2.2 (by decide) hr⟩⟩
theorem RR.mono {z : Int} {d B C : Nat} {w : World} {v : Value} (h : RR z d B w v) (hC : C ≤ B) : RR z d C w v := by
  obtain ⟨vn, vd, rfl, h1, h2⟩ := h
  exact ⟨vn, vd, rfl, h1.mono hC, h2.mono hC⟩
theorem RR.below' {z : Int} {d B : Nat} {w w' : World} {v : Value} (h : RR z d B w v) (hb : Below w.heap.size w w') : RR z d B w' v := by
  obtain ⟨vn, vd, rfl, h1, h2⟩ := h
  exact ⟨vn, vd, rfl, h1.below hb, h2.below hb⟩

theorem Su.stab {B C : Nat} {s : Su} {w w' : World} {v : Value} (h : s.holds B w v) (hr : Rx C 27 w w') : s.holds B w' v := by
  cases s with
  | val u => exact h
  | rr p => exact RR.rx h hr
  | any => trivial

theorem rr_store {z : Int} {d B : Nat} {w : World} {v : Value} (h : RR z d B w v) : ∃ cs, v = .agg cs ∧ cs.size = 3 ∧ cs.all (·.oneCell') = true := by
  obtain ⟨vn, vd, rfl, h1, h2⟩ := h
  obtain ⟨a1, c1, rfl⟩ := h1.slice
  obtain ⟨a2, c2, rfl⟩ := h2.slice
  exact ⟨_, rfl, rfl, by simp [Value.oneCell']⟩

theorem args1 {r : Tmp → Value} {t1 : Tmp} {v1 : Value} (h1 : r t1 = v1) : [Operand.tmp t1].map (evalOf r) = [v1] := by subst h1; rfl
theorem args2 {r : Tmp → Value} {t1 t2 : Tmp} {v1 v2 : Value} (h1 : r t1 = v1) (h2 : r t2 = v2) : [Operand.tmp t1, Operand.tmp t2].map (evalOf r) = [v1, v2] := by subst h1 h2; rfl

theorem callRR {f : FuncId} {args : Array Value} {w : World} {B : Nat} {p : PR} (h : Calls Tryz.prog f args w (RetR p.1 p.2 w)) (hB : B ≤ w.heap.size) :
    Calls Tryz.prog f args w fun e w' => ∃ v, e = .returned v ∧ Below w.heap.size w w' ∧ RR p.1 p.2 B w' v :=
  h.mono fun _ _ ⟨v, he, hr, hb⟩ => ⟨v, he, hb, hr.mono hB⟩
theorem callRF {f : FuncId} {args : Array Value} {w : World} {I : World → Prop} {p : PR} (h : Calls Tryz.prog f args w (RetR p.1 p.2 w)) (hI : ∀ w', Below w.heap.size w w' → I w') :
    Calls Tryz.prog f args w fun e w' => ∃ v, e = .returned v ∧ I w' ∧ Below w.heap.size w w' ∧ Fv w' v p.1 p.2 :=
  h.mono fun _ _ ⟨v, he, hr, hb⟩ => ⟨v, he, hI _ hb, hb, hr.fv⟩

theorem brings_load_row {r : Tmp → Value} {d : Option Tmp} {x : Operand} {ty : TypeId} {pos : String} {after : Array Edge} {g : Option (Nat × Bool)} {w : World} {N : Value → World → Prop} {q : Nat} {cs : Array Value}
    (hx : evalOf r x = .pointer (some ⟨q, 0, none⟩)) (hq : w.heap[q]? = some (.cells cs 27 (0, 0))) (hs : cs.size = 3) (hN : N (.agg cs) w) : Brings Tryz.prog (execOp (evalOf r) ⟨d, .load 27 x, ty, pos, after, g⟩) w N := by
  have hu := und_Rat
  cases hd : Tryz.prog.underlying 27 with
  | none => rw [hd] at hu; cases hu
  | some dd' =>
    rw [hd] at hu
    refine brings_ok (v := .agg cs) (w' := w) ?_ hN
    simp only [execOp, hx, Instr.loadAt, Instr.sureAddr, Sem.run_bind, Sem.run_pure, Result.andThen_ok, run_loadVar_row w q 27 27 cs (0, 0) dd' hq hd (by revert hu; cases dd' <;> simp) (by rw [hs]; exact size_Rat)]

theorem alloc_rat_run (r : Tmp → Value) (d : Option Tmp) (ty : TypeId) (pos : String) (after : Array Edge) (g : Option (Nat × Bool)) (w : World) :
    (execOp (evalOf r) ⟨d, .alloc 27, ty, pos, after, g⟩).run Tryz.prog w = .ok (.value (.pointer (some ⟨w.heap.size, 0, none⟩))) (w.alloc (.cells #[.bool false, .slice none 0 0, .slice none 0 0] 27)) := by kernel_rfl

theorem brings_alloc_rat (r : Tmp → Value) (d : Option Tmp) (ty : TypeId) (pos : String) (after : Array Edge) (g : Option (Nat × Bool)) (w : World) :
    Brings Tryz.prog (execOp (evalOf r) ⟨d, .alloc 27, ty, pos, after, g⟩) w fun v w' => v = .pointer (some ⟨w.heap.size, 0, none⟩) ∧ ∃ cs : Array Value, cs.size = 3 ∧ w' = w.alloc (.cells cs 27) := by
  have h1 := alloc_rat_run r d ty pos after g w
  generalize execOp (evalOf r) ⟨d, .alloc 27, ty, pos, after, g⟩ = s at *
  exact brings_ok h1 ⟨rfl, _, rfl, rfl⟩

theorem not_run (b : Bool) (x : Operand) (d : Option Tmp) (xt ty : TypeId) (pos : String) (after : Array Edge) (g : Option (Nat × Bool)) (w : World) :
    (execOp (fun _ => .bool b) ⟨d, .unOp .not xt x, ty, pos, after, g⟩).run Tryz.prog w = .ok (.value (.bool (!b))) w := by kernel_rfl
theorem brings_not {r : Tmp → Value} {d : Option Tmp} {x : Operand} {xt ty : TypeId} {pos : String} {after : Array Edge} {g : Option (Nat × Bool)} {w : World} {N : Value → World → Prop} {b : Bool}
    (hx : evalOf r x = .bool b) (hN : N (.bool (!b)) w) : Brings Tryz.prog (execOp (evalOf r) ⟨d, .unOp .not xt x, ty, pos, after, g⟩) w N := by
  refine brings_ok (v := .bool (!b)) (w' := w) ?_ hN
  have h := not_run b x d xt ty pos after g w
  simp only [execOp, hx] at h ⊢
  exact h

theorem neq_same (x : Int) (a b : Operand) (w : World) : (do eqGuard .neq 31 a b (.int .i64 x) (.int .i64 x); binOp .neq 31 (.int .i64 x) (.int .i64 x) : Sem Value).run Tryz.prog w = .ok (.bool false) w := by
  have h : (do eqGuard .neq 31 a b (.int .i64 x) (.int .i64 x); binOp .neq 31 (.int .i64 x) (.int .i64 x) : Sem Value).run Tryz.prog w = .ok (.bool (x != x)) w := by kernel_rfl
  rw [h]; simp
end Go.Proofs.YthlpfhenaakljaaGreatDoor

namespace Go.Proofs.YthlpfhenaakljaaGreatDoor
open Go.RowKit

theorem awake_b (w : World) : Calls Tryz.prog 5 #[] w (fun e w' => e = .returned (.bool true) ∧ Below w.heap.size w w') := awake6_calls w

theorem pair_lv {W : World} {u0 u1 u2 u3 u4 u5 : Value} {qa qb : Tq} (ha : Qv W (.agg #[u0, u1, u2]) qa) (hb : Qv W (.agg #[u3, u4, u5]) qb) :
    Lv (W.alloc (.cells #[u0, u1, u2, u3, u4, u5] 27)) (.slice (some ⟨W.heap.size, 0, none⟩) 2 2) [qa, qb] := by
  have hbel : Below W.heap.size W (W.alloc (.cells #[u0, u1, u2, u3, u4, u5] 27)) := (Below.refl _ _).alloc (Nat.le_refl _) _
  have hr := heap_alloc_new W (.cells #[u0, u1, u2, u3, u4, u5] 27)
  obtain ⟨m1, m2, e, h1, h2⟩ := ha
  obtain ⟨m3, m4, e2, h3, h4⟩ := hb
  simp only [Value.agg.injEq, Array.mk.injEq, List.cons.injEq, and_true] at e e2
  obtain ⟨rfl, rfl, rfl⟩ := e
  obtain ⟨rfl, rfl, rfl⟩ := e2
  refine ⟨_, 2, rfl, Nat.le_refl _, .inr ⟨W.heap.size, 0, rfl, heap_lt hr, fun i q hi => ?_⟩⟩
  match i with
  | 0 =>
    obtain rfl : qa = q := by simpa using hi
    exact ⟨_, _, cell_of_row _ _ 0 _ _ _ hr, cell_of_row _ _ 1 _ _ _ hr, cell_of_row _ _ 2 _ _ _ hr, h1.below hbel, h2.below hbel⟩
  | 1 =>
    obtain rfl : qb = q := by simpa using hi
    exact ⟨_, _, cell_of_row _ _ 3 _ _ _ hr, cell_of_row _ _ 4 _ _ _ hr, cell_of_row _ _ 5 _ _ _ hr, h3.below hbel, h4.below hbel⟩
  | k + 2 => simp at hi

/-- Behind the boxes: where the arguments lie. -/
structure RsSt (w : World) (j1 j2 : Nat) (u0 u1 u2 u3 u4 u5 vl : Value) (qa qb : Tq) (ql : List Tq) (wx : World) : Prop where
  bel : Below w.heap.size w wx
  r1 : wx.heap[j1]? = some (.cells #[u0, u1, u2] 27 (0, 0))
  r2 : wx.heap[j2]? = some (.cells #[u3, u4, u5] 27 (0, 0))
  a : Qv wx (.agg #[u0, u1, u2]) qa
  b : Qv wx (.agg #[u3, u4, u5]) qb
  l : Lv wx vl ql

theorem RsSt.call {w wx wy : World} {j1 j2 : Nat} {u0 u1 u2 u3 u4 u5 vl : Value} {qa qb : Tq} {ql : List Tq} (h : RsSt w j1 j2 u0 u1 u2 u3 u4 u5 vl qa qb ql wx) (hb : Below wx.heap.size wx wy) : RsSt w j1 j2 u0 u1 u2 u3 u4 u5 vl qa qb ql wy :=
  ⟨h.bel.trans (hb.mono h.bel.size), block_of hb h.r1, block_of hb h.r2, h.a.below hb, h.b.below hb, h.l.below hb⟩
theorem RsSt.cells {w wx : World} {j1 j2 : Nat} {u0 u1 u2 u3 u4 u5 vl : Value} {qa qb : Tq} {ql : List Tq} (h : RsSt w j1 j2 u0 u1 u2 u3 u4 u5 vl qa qb ql wx) :
    (wx.cell? ⟨j1, 0, none⟩ = some u0 ∧ wx.cell? ⟨j1, 1, none⟩ = some u1 ∧ wx.cell? ⟨j1, 2, none⟩ = some u2) ∧ wx.cell? ⟨j2, 0, none⟩ = some u3 ∧ wx.cell? ⟨j2, 1, none⟩ = some u4 ∧ wx.cell? ⟨j2, 2, none⟩ = some u5 :=
  ⟨⟨cell_of_row _ _ 0 _ _ _ h.r1, cell_of_row _ _ 1 _ _ _ h.r1, cell_of_row _ _ 2 _ _ _ h.r1⟩, cell_of_row _ _ 0 _ _ _ h.r2, cell_of_row _ _ 1 _ _ _ h.r2, cell_of_row _ _ 2 _ _ _ h.r2⟩


def rsD8 : List Tmp := [48, 49, 50, 51, 52, 53, 54, 55, 56, 57, 58, 59, 60, 12, 13, 14, 15, 16]
def rsK8 : List Kd := [.plain [] none, .plain [] none, .plain [48, 49] none, .plain [] none, .plain [] none, .plain [51, 52] none, .plain [] none, .plain [] none, .plain [54, 55] none, .plain [] none, .plain [57] none, .plain [] none, .plain [59] none, .made, .made, .made, .made, .made, .store 12 50, .store 13 53, .store 14 56, .store 15 58, .store 16 60]
def rsL8 (u0 u1 u2 u3 u4 u5 vl : Value) (qa qb : Tq) (ql : List Tq) : List (Nat × Su) := [(48, .val (.agg #[u0, u1, u2])), (49, .val (.agg #[u3, u4, u5])), (50, .rr (addP qa qb)), (51, .val (.agg #[u0, u1, u2])), (52, .val (.agg #[u3, u4, u5])), (53, .rr (subP qa qb)), (54, .val (.agg #[u0, u1, u2])), (55, .val (.agg #[u3, u4, u5])), (56, .rr (mulP qa qb)), (57, .val (.agg #[u0, u1, u2])), (58, .rr (negP qa)), (59, .val vl), (60, .rr (sumQ ql))]
def rsD9 : List Tmp := [61, 62, 63, 64, 65, 66, 67, 68, 69, 70, 71, 72, 73, 74, 75, 76, 77, 78, 79, 80, 81, 82, 83, 84, 85, 86, 87, 88, 89, 90, 91, 92, 93, 94, 95, 96, 97, 98, 99, 100, 101, 102, 103, 104, 105, 106, 107]
def rsG9 : List (List Tmp × Option (Option Tmp × Bool)) := [([], none), ([], none), ([61, 62], none), ([63], none), ([64], some (some 64, false)), ([64], some (some 64, false)), ([65, 66, 64], some (some 64, false)), ([67, 64], some (some 64, false)), ([64, 68], none), ([69], none), ([70], some (some 70, false)), ([70], some (some 70, false)), ([70], some (some 70, false)), ([72, 73, 70], some (some 70, false)), ([71, 74, 70], some (some 70, false)), ([75, 70], some (some 70, false)), ([70, 76], none), ([77], none), ([78], some (some 78, false)), ([78], some (some 78, false)), ([78], some (some 78, false)), ([80, 81, 78], some (some 78, false)), ([79, 82, 78], some (some 78, false)), ([83, 78], some (some 78, false)), ([78, 84], none), ([85], none), ([86], some (some 86, false)), ([86], some (some 86, false)), ([86], some (some 86, false)), ([88, 89, 86], some (some 86, false)), ([87, 90, 86], some (some 86, false)), ([91, 86], some (some 86, false)), ([86, 92], none), ([93], none), ([94], some (some 94, false)), ([94], some (some 94, false)), ([96, 94], some (some 94, false)), ([95, 97, 94], some (some 94, false)), ([98, 94], some (some 94, false)), ([94, 99], none), ([100], none), ([101], some (some 101, false)), ([101], some (some 101, false)), ([103, 101], some (some 101, false)), ([102, 104, 101], some (some 101, false)), ([105, 101], some (some 101, false)), ([101, 106], none)]
def rsL9 (er : Int) (u0 u1 u2 u3 u4 u5 vl : Value) (qa qb : Tq) (ql : List Tq) : List (Nat × Sp) := [(61, .val (.int .i64 er)), (62, .val (.int .i64 er)), (63, .val (.bool false)), (64, .val (.bool false)), (65, .fv (quoP qa qb).1 (quoP qa qb).2), (66, .fv (quoP qa qb).1 (quoP qa qb).2), (67, .val (.bool true)), (68, .val (.bool false)), (69, .val (.bool false)), (70, .val (.bool false)), (71, .fv (addP qa qb).1 (addP qa qb).2), (72, .val (.agg #[u0, u1, u2])), (73, .val (.agg #[u3, u4, u5])), (74, .fv (addP qa qb).1 (addP qa qb).2), (75, .val (.bool true)), (76, .val (.bool false)), (77, .val (.bool false)), (78, .val (.bool false)), (79, .fv (subP qa qb).1 (subP qa qb).2), (80, .val (.agg #[u0, u1, u2])), (81, .val (.agg #[u3, u4, u5])), (82, .fv (subP qa qb).1 (subP qa qb).2), (83, .val (.bool true)), (84, .val (.bool false)), (85, .val (.bool false)), (86, .val (.bool false)), (87, .fv (mulP qa qb).1 (mulP qa qb).2), (88, .val (.agg #[u0, u1, u2])), (89, .val (.agg #[u3, u4, u5])), (90, .fv (mulP qa qb).1 (mulP qa qb).2), (91, .val (.bool true)), (92, .val (.bool false)), (93, .val (.bool false)), (94, .val (.bool false)), (95, .fv (negP qa).1 (negP qa).2), (96, .val (.agg #[u0, u1, u2])), (97, .fv (negP qa).1 (negP qa).2), (98, .val (.bool true)), (99, .val (.bool false)), (100, .val (.bool false)), (101, .val (.bool false)), (102, .fv (sumQ ql).1 (sumQ ql).2), (103, .val vl), (104, .fv (sumQ ql).1 (sumQ ql).2), (105, .val (.bool true)), (106, .val (.bool false)), (107, .val (.bool false))]
theorem ent_10 (args : Array Value) (w : World) : (callFunc 10 args).run Tryz.prog w = .ok (.enter 10 args) w := by
  obtain ⟨c, hc⟩ := Option.isSome_iff_exists.1 (show Tryz.f10.body.isSome = true by kernel_rfl)
  exact Go.MuLone.run_callFunc_enter Tryz.func10 (by kernel_rfl) hc args w
theorem ent_11 (args : Array Value) (w : World) : (callFunc 11 args).run Tryz.prog w = .ok (.enter 11 args) w := by
  obtain ⟨c, hc⟩ := Option.isSome_iff_exists.1 (show Tryz.f11.body.isSome = true by kernel_rfl)
  exact Go.MuLone.run_callFunc_enter Tryz.func11 (by kernel_rfl) hc args w
theorem ent_9 (args : Array Value) (w : World) : (callFunc 9 args).run Tryz.prog w = .ok (.enter 9 args) w := by
  obtain ⟨c, hc⟩ := Option.isSome_iff_exists.1 (show Tryz.f9.body.isSome = true by kernel_rfl)
  exact Go.MuLone.run_callFunc_enter Tryz.func9 (by kernel_rfl) hc args w
theorem ent_12 (args : Array Value) (w : World) : (callFunc 12 args).run Tryz.prog w = .ok (.enter 12 args) w := by
  obtain ⟨c, hc⟩ := Option.isSome_iff_exists.1 (show Tryz.f12.body.isSome = true by kernel_rfl)
  exact Go.MuLone.run_callFunc_enter Tryz.func12 (by kernel_rfl) hc args w
theorem ent_14 (args : Array Value) (w : World) : (callFunc 14 args).run Tryz.prog w = .ok (.enter 14 args) w := by
  obtain ⟨c, hc⟩ := Option.isSome_iff_exists.1 (show Tryz.f14.body.isSome = true by kernel_rfl)
  exact Go.MuLone.run_callFunc_enter Tryz.func14 (by kernel_rfl) hc args w
theorem ent_16 (args : Array Value) (w : World) : (callFunc 16 args).run Tryz.prog w = .ok (.enter 16 args) w := by
  obtain ⟨c, hc⟩ := Option.isSome_iff_exists.1 (show Tryz.f16.body.isSome = true by kernel_rfl)
  exact Go.MuLone.run_callFunc_enter Tryz.func16 (by kernel_rfl) hc args w
theorem ent_17 (args : Array Value) (w : World) : (callFunc 17 args).run Tryz.prog w = .ok (.enter 17 args) w := by
  obtain ⟨c, hc⟩ := Option.isSome_iff_exists.1 (show Tryz.f17.body.isSome = true by kernel_rfl)
  exact Go.MuLone.run_callFunc_enter Tryz.func17 (by kernel_rfl) hc args w
theorem ent_15 (args : Array Value) (w : World) : (callFunc 15 args).run Tryz.prog w = .ok (.enter 15 args) w := by
  obtain ⟨c, hc⟩ := Option.isSome_iff_exists.1 (show Tryz.f15.body.isSome = true by kernel_rfl)
  exact Go.MuLone.run_callFunc_enter Tryz.func15 (by kernel_rfl) hc args w
theorem ent_18 (args : Array Value) (w : World) : (callFunc 18 args).run Tryz.prog w = .ok (.enter 18 args) w := by
  obtain ⟨c, hc⟩ := Option.isSome_iff_exists.1 (show Tryz.f18.body.isSome = true by kernel_rfl)
  exact Go.MuLone.run_callFunc_enter Tryz.func18 (by kernel_rfl) hc args w

/-- A slot that holds no pointer to come. -/
def OldP (w : World) (v : Value) : Prop := ∀ g, v = .pointer (some ⟨g, 0, none⟩) → g < w.heap.size
theorem OldP.undef (w : World) : OldP w undef := fun g h => by unfold Go.undef at h; cases h
theorem OldP.mono {w w' : World} {v : Value} (h : OldP w v) (hs : w.heap.size ≤ w'.heap.size) : OldP w' v := fun g e => Nat.lt_of_lt_of_le (h g e) hs
theorem OldP.ptr {w : World} {k : Nat} (h : k < w.heap.size) : OldP w (.pointer (some ⟨k, 0, none⟩)) := fun g e => by
  injection e with e; injection e with e; injection e with e; omega

theorem dist_old5 {w : World} {r : Tmp → Value} {a b c d e : Tmp} (h1 : OldP w (r a)) (h2 : OldP w (r b)) (h3 : OldP w (r c)) (h4 : OldP w (r d)) (h5 : OldP w (r e)) : Dist w.heap.size [a, b, c, d, e] r w := by
  intro t ht g hg
  have : g < w.heap.size := by
    simp only [List.mem_cons, List.not_mem_nil, or_false] at ht
    rcases ht with rfl | rfl | rfl | rfl | rfl
    · exact h1 g hg
    · exact h2 g hg
    · exact h3 g hg
    · exact h4 g hg
    · exact h5 g hg
  exact ⟨this, fun hB => by omega⟩

theorem RR.form {z : Int} {d B : Nat} {w : World} {v : Value} (h : RR z d B w v) : ∃ b a1 n1 c1 a2 n2 c2, v = .agg #[.bool b, .slice a1 n1 c1, .slice a2 n2 c2] := by
  obtain ⟨vn, vd, rfl, h1, h2⟩ := h
  obtain ⟨a1, c1, rfl⟩ := h1.slice
  obtain ⟨a2, c2, rfl⟩ := h2.slice
  exact ⟨_, _, _, _, _, _, _, rfl⟩

/-- A variable that holds a fraction with limbs of its own. -/
def RBox (B : Nat) (w : World) (g : Nat) (p : PR) : Prop := ∃ b a1 n1 c1 a2 n2 c2, w.heap[g]? = some (.cells #[.bool b, .slice a1 n1 c1, .slice a2 n2 c2] 27 (0, 0)) ∧ RR p.1 p.2 B w (.agg #[.bool b, .slice a1 n1 c1, .slice a2 n2 c2])
theorem RBox.below {B : Nat} {w w' : World} {g : Nat} {p : PR} (h : RBox B w g p) (hb : Below w.heap.size w w') : RBox B w' g p := by
  obtain ⟨b, a1, n1, c1, a2, n2, c2, hg, hr⟩ := h
  exact ⟨b, a1, n1, c1, a2, n2, c2, block_of hb hg, hr.below' hb⟩
theorem RBox.mono {B C : Nat} {w : World} {g : Nat} {p : PR} (h : RBox B w g p) (hC : C ≤ B) : RBox C w g p := by
  obtain ⟨b, a1, n1, c1, a2, n2, c2, hg, hr⟩ := h
  exact ⟨b, a1, n1, c1, a2, n2, c2, hg, hr.mono hC⟩
theorem RBox.sl {B : Nat} {w : World} {g : Nat} {p : PR} (h : RBox B w g p) : Sl w g p.1 p.2 := by
  obtain ⟨b, a1, n1, c1, a2, n2, c2, hg, hr⟩ := h
  exact ⟨_, _, _, hg, hr.fv⟩
theorem RBox.lt {B : Nat} {w : World} {g : Nat} {p : PR} (h : RBox B w g p) : g < w.heap.size := by
  obtain ⟨b, a1, n1, c1, a2, n2, c2, hg, hr⟩ := h
  exact heap_lt hg
theorem RBox.of {B : Nat} {w : World} {x v : Value} {p : PR} (h : Holds B 27 3 w x v) (hr : RR p.1 p.2 B w v) : ∃ g, x = .pointer (some ⟨g, 0, none⟩) ∧ RBox B w g p := by
  obtain ⟨g, cs, h1, h2, h3, h4, h5⟩ := h
  obtain ⟨b, a1, n1, c1, a2, n2, c2, h6⟩ := hr.form
  rw [h6] at h3 hr
  injection h3 with h3
  subst h3
  exact ⟨g, h1, b, a1, n1, c1, a2, n2, c2, h5, hr⟩

/-- .. whose limbs may be written over. -/
def SBox (B : Nat) (w : World) (g : Nat) : Prop := ∃ b a1 n1 c1 a2 n2 c2, w.heap[g]? = some (.cells #[.bool b, .slice a1 n1 c1, .slice a2 n2 c2] 27 (0, 0)) ∧
  SpU B n1 w (.slice a1 n1 c1) ∧ SpU B n2 w (.slice a2 n2 c2) ∧ n1 ≤ 4611686018427387904 ∧ n2 ≤ 4611686018427387904
theorem SBox.fr {B C : Nat} {w w' : World} {g : Nat} (h : SBox B w g) (hf : Fr C w w') : SBox B w' g := by
  obtain ⟨b, a1, n1, c1, a2, n2, c2, hg, s1, s2, l1, l2⟩ := h
  exact ⟨b, a1, n1, c1, a2, n2, c2, hf.other hg (by decide), s1.fr hf, s2.fr hf, l1, l2⟩
theorem RBox.sbox {B : Nat} {w : World} {g : Nat} {p : PR} (h : RBox B w g p) (hl : Len p) : SBox B w g := by
  obtain ⟨b, a1, n1, c1, a2, n2, c2, hg, vn, vd, he, h1, h2⟩ := h
  simp only [Value.agg.injEq, Array.mk.injEq, List.cons.injEq, and_true] at he
  obtain ⟨-, rfl, rfl⟩ := he
  obtain ⟨e1, e2, e3⟩ := h1.slice
  obtain ⟨e4, e5, e6⟩ := h2.slice
  simp only [Value.slice.injEq] at e3 e6
  obtain ⟨rfl, rfl, rfl⟩ := e3
  obtain ⟨rfl, rfl, rfl⟩ := e6
  exact ⟨b, _, _, _, _, _, _, hg, h1.spu, h2.spu, Nat.le_trans hl.1 (by decide), Nat.le_trans hl.2 (by decide)⟩

/-- At the head of a round. -/
structure RsLp (w : World) (j1 j2 g7 : Nat) (u0 u1 u2 u3 u4 u5 vl : Value) (qa qb : Tq) (ql : List Tq) (wx : World) : Prop where
  st : RsSt w j1 j2 u0 u1 u2 u3 u4 u5 vl qa qb ql wx
  q : Sl wx g7 (quoP qa qb).1 (quoP qa qb).2
theorem RsLp.call {w wx wy : World} {j1 j2 g7 : Nat} {u0 u1 u2 u3 u4 u5 vl : Value} {qa qb : Tq} {ql : List Tq} (h : RsLp w j1 j2 g7 u0 u1 u2 u3 u4 u5 vl qa qb ql wx) (hb : Below wx.heap.size wx wy) : RsLp w j1 j2 g7 u0 u1 u2 u3 u4 u5 vl qa qb ql wy :=
  ⟨h.st.call hb, h.q.below hb⟩

set_option maxHeartbeats 6400000 in
set_option maxRecDepth 100000 in
theorem ratSums_calls (qa qb : Tq) (ql : List Tq) (va vb vl : Value) (w : World) (ha : Qv w va qa) (hb : Qv w vb qb) (hl : Lv w vl ql) (hn : ql.length ≤ 140737488351232) :
    Calls Tryz.prog 3 #[va, vb, vl] w (fun e w' => e = .returned (.bool true) ∧ Below w.heap.size w w') := by
  obtain ⟨m1, m2, rfl, n1, n2⟩ := id ha
  obtain ⟨m3, m4, rfl, n3, n4⟩ := id hb
  obtain ⟨-, a1, c1, rfl, -, -⟩ := n1
  obtain ⟨-, a2, c2, rfl, -, -⟩ := n2
  obtain ⟨-, a3, c3, rfl, -, -⟩ := n3
  obtain ⟨-, a4, c4, rfl, -, -⟩ := n4
  obtain ⟨a5, c5, rfl, -, -⟩ := id hl
  have HA := Lib.hid ha
  have HB := Lib.hid hb
  have HL := Lib.hid hl
  clear ha hb hl
  go_enter Tryz.func3, Tryz.ntmps3
  go_upto_region 1 with fail
  obtain ⟨g1, g2, hB0, hsz⟩ := two_blocks w (.cells #[.bool qa.1, .slice a1 qa.2.1.length c1, .slice a2 qa.2.2.length c2] 27) (.cells #[.bool qb.1, .slice a3 qb.2.1.length c3, .slice a4 qb.2.2.length c4] 27)
  generalize (w.alloc (.cells #[.bool qa.1, .slice a1 qa.2.1.length c1, .slice a2 qa.2.2.length c2] 27)).alloc (.cells #[.bool qb.1, .slice a3 qb.2.1.length c3, .slice a4 qb.2.2.length c4] 27) = W at *
  have HST := Lib.hid (show RsSt w w.heap.size (w.heap.size + 1) _ _ _ _ _ _ (.slice a5 ql.length c5) qa qb ql W from ⟨hB0, g1, g2, HA.out.below hB0, HB.out.below hB0, HL.out.below hB0⟩)
  clear g1 g2 hB0 hsz HA HB HL
  have HJ := Lib.hid (Nat.lt_succ_self w.heap.size)
  generalize hj1 : w.heap.size = j1 at *
  generalize hj2 : j1.succ = j2 at *
  rw [show j1 + 1 = j2 from hj2] at *
  have HJ1 := Lib.hid hj1
  clear hj1 hj2
  obtain ⟨⟨t10, t11, t12⟩, t20, t21, t22⟩ := HST.out.cells
  have HB6 := Lib.hid (show Below W.heap.size W (W.alloc (.cells #[.bool qa.1, .slice a1 qa.2.1.length c1, .slice a2 qa.2.2.length c2, .bool qb.1, .slice a3 qb.2.1.length c3, .slice a4 qb.2.2.length c4] 27)) from (Below.refl _ _).alloc (Nat.le_refl _) _)
  have HLC := Lib.hid (long_calls _ _ _ (pair_lv HST.out.a HST.out.b) (show ([qa, qb] : List Tq).length ≤ 4611686018427387904 by simp))
  cases hA : [qa, qb].any longQ with
  | true =>
    rw [hA] at HLC
    clear hA
    go_wp2_with fail
    refine HLC.out.mono ?_
    rintro e w1 ⟨rfl, rfl⟩
    go_wp2_with fail
    refine (awake_b _).mono ?_
    rintro e w1 ⟨rfl, hb⟩
    have HF := Lib.hid ((HST.out.call HB6.out).call hb).bel
    clear hb
    go_wp2_with fail
    go_ret
    exact ⟨rfl, HF.out⟩
  | false =>
    rw [hA] at HLC
    have HSA := Lib.hid hA
    clear hA
    have HL2 := Lib.hid (long_calls _ _ _ ((HST.out.call HB6.out).l) (Nat.le_trans hn (by decide)))
    have aw : ∀ (wx wy : World), Below W.heap.size W wx → Below wx.heap.size wx wy → Below w.heap.size w wy := fun wx wy h1 h2 => ((HST.out.call h1).call h2).bel
    have HAW := Lib.hid aw
    clear aw
    cases hM : ql.any longQ with
    | true =>
      rw [hM] at HL2
      clear hM
      go_wp2_with fail
      refine HLC.out.mono ?_
      rintro e w1 ⟨rfl, rfl⟩
      go_wp2_with fail
      refine HL2.out.mono ?_
      rintro e w1 ⟨rfl, rfl⟩
      go_wp2_with fail
      refine (awake_b _).mono ?_
      rintro e w1 ⟨rfl, hb⟩
      have HF := Lib.hid (HAW.out _ _ HB6.out hb)
      clear hb
      go_wp2_with fail
      go_ret
      exact ⟨rfl, HF.out⟩
    | false =>
      rw [hM] at HL2
      have HSL := Lib.hid hM
      clear hM
      by_cases hN : 6 < ql.length
      · have hN2 : ((ql.length : Int) > 6) := by omega
        go_wp2_with fail
        refine HLC.out.mono ?_
        rintro e w1 ⟨rfl, rfl⟩
        go_wp2_with fail
        refine HL2.out.mono ?_
        rintro e w1 ⟨rfl, rfl⟩
        go_wp2_with fail
        refine (awake_b _).mono ?_
        rintro e w1 ⟨rfl, hb⟩
        have HF := Lib.hid (HAW.out _ _ HB6.out hb)
        clear hb
        go_wp2_with fail
        go_ret
        exact ⟨rfl, HF.out⟩
      · have hN2 : ¬ ((ql.length : Int) > 6) := by omega
        have HN := Lib.hid hN
        have HQ := Lib.hid (fun wx (hb : Below W.heap.size W wx) => quo6_q (HST.out.call hb).a (HST.out.call hb).b (six_of HST.out.a (by simpa using (List.any_eq_false.1 HSA.out) qa (by simp))) (six_of HST.out.b (by simpa using (List.any_eq_false.1 HSA.out) qb (by simp))))
        go_wp2_with fail
        refine HLC.out.mono ?_
        rintro e w1 ⟨rfl, rfl⟩
        go_wp2_with fail
        refine HL2.out.mono ?_
        rintro e w1 ⟨rfl, rfl⟩
        go_upto_region 3 with fail
        have HST := Lib.hid (HST.out.call HB6.out)
        have HQ := Lib.hid (HQ.out _ HB6.out)
        generalize W.alloc (.cells #[.bool qa.1, .slice a1 qa.2.1.length c1, .slice a2 qa.2.2.length c2, .bool qb.1, .slice a3 qb.2.1.length c3, .slice a4 qb.2.2.length c4] 27) = WB at *
        clear HB6 HL2 HLC HAW HJ HJ1 t10 t11 t12 t20 t21 t22
        obtain ⟨⟨t10, t11, t12⟩, t20, t21, t22⟩ := HST.out.cells
        go_wp2_with fail
        refine HQ.out.mono ?_
        rintro e w1 ⟨vq, rfl, hq, hb⟩
        obtain ⟨a6, n6, c6, a7, n7, c7, rfl, hs, hb2⟩ := hq.fv.parts (decide ((quoP qa qb).1 < 0)) rfl
        generalize hbq : decide ((quoP qa qb).1 < 0) = bq at *
        have HST := Lib.hid ((HST.out.call hb).call hb2)
        have HS7 := Lib.hid hs
        clear hq hb hs hb2 hbq
        have ga := heap_alloc_new w1 (.cells #[.bool false, .slice none 0 0, .slice none 0 0] 27)
        have e0 := frozen_of_row _ _ 0 _ _ ga
        have e1 := frozen_of_row _ _ 1 _ _ ga
        have e2 := frozen_of_row _ _ 2 _ _ ga
        have r0 := cell_of_row _ _ 0 _ _ (0, 0) ga
        have r1 := cell_of_row _ _ 1 _ _ (0, 0) ga
        have r2 := cell_of_row _ _ 2 _ _ (0, 0) ga
        clear ga
        go_upto_region 4 with fail
        generalize w1.alloc (.cells #[.bool bq, .slice a6 n6 c6, .slice a7 n7 c7] 27) = WC at *
        generalize w1.heap.size = g7 at *
        clear e0 e1 e2 r0 r1 r2 HQ t10 t11 t12 t20 t21 t22
        have HLP := Lib.hid (show RsLp w j1 j2 g7 _ _ _ _ _ _ _ qa qb ql WC from ⟨HST.out, HS7.out⟩)
        have SA := Lib.hid (six_of HST.out.a (by simpa using (List.any_eq_false.1 HSA.out) qa (by simp)))
        have SB := Lib.hid (six_of HST.out.b (by simpa using (List.any_eq_false.1 HSA.out) qb (by simp)))
        have SL := Lib.hid (six_all HST.out.l HSL.out)
        have HL6 := Lib.hid (Nat.le_of_not_lt HN.out)
        clear HST HS7 HSA HSL HN hN2 hN hn
        generalize hv0 : Value.bool qa.1 = u0 at *
        generalize hv1 : Value.slice a1 qa.2.1.length c1 = u1 at *
        generalize hv2 : Value.slice a2 qa.2.2.length c2 = u2 at *
        generalize hv3 : Value.bool qb.1 = u3 at *
        generalize hv4 : Value.slice a3 qb.2.1.length c3 = u4 at *
        generalize hv5 : Value.slice a4 qb.2.2.length c4 = u5 at *
        generalize hv6 : Value.slice a5 ql.length c5 = vl at *
        generalize hqe : quoE qb = er at *
        have HV := Lib.hid (And.intro hv0 (And.intro hv1 (And.intro hv2 (And.intro hv3 (And.intro hv4 (And.intro hv5 hv6))))))
        have HQE := Lib.hid hqe
        clear hv0 hv1 hv2 hv3 hv4 hv5 hv6 hqe
        go_wp2_with fail
        go_loopw [9, 12, 13, 14, 15, 16] (fun s x12 x13 x14 x15 x16 wr => ∃ k : Nat, k ≤ 2 ∧ s = .int .i64 k ∧ Hid (RsLp w j1 j2 g7 u0 u1 u2 u3 u4 u5 vl qa qb ql wr) ∧ Hid (OldP wr x12 ∧ OldP wr x13 ∧ OldP wr x14 ∧ OldP wr x15 ∧ OldP wr x16)) (fun s _ _ _ _ _ _ => 2 - (intOf s).toNat)
        case atStart => exact ⟨0, by decide, rfl, HLP, Lib.hid ⟨OldP.undef _, OldP.undef _, OldP.undef _, OldP.undef _, OldP.undef _⟩⟩
        case round =>
          clear HLP
          obtain ⟨k, hk, rfl, HLP, HO⟩ := hrel
          obtain ⟨⟨t10, t11, t12⟩, t20, t21, t22⟩ := HLP.out.st.cells
          by_cases hk2 : k < 2
          · have hk3 : (k : Int) < 2 := by omega
            have HQ := Lib.hid (rquo_q HLP.out.st.a HLP.out.st.b SA.out SB.out)
            go_wp2_with fail
            refine HQ.out.mono ?_
            rintro e w1 ⟨vx, rfl, hq, hb⟩
            obtain ⟨bx, a8, n8, c8, a9, n9, c9, rfl⟩ := hq.form
            have hb2 : Below w1.heap.size w1 (w1.alloc (.cells #[.bool bx, .slice a8 n8 c8, .slice a9 n9 c9] 27)) := (Below.refl _ _).alloc (Nat.le_refl _) _
            have HX := Lib.hid (show RBox wr.heap.size (w1.alloc (.cells #[.bool bx, .slice a8 n8 c8, .slice a9 n9 c9] 27)) w1.heap.size (quoP qa qb) from ⟨_, _, _, _, _, _, _, heap_alloc_new w1 _, hq.below' hb2⟩)
            have HW := Lib.hid (hb.trans (hb2.mono hb.size))
            rw [HQE.out]
            clear hq hb hb2 HQ
            have HLP8 := Lib.hid (HLP.out.call HW.out)
            have ga := heap_alloc_new w1 (.cells #[.bool false, .slice none 0 0, .slice none 0 0] 27)
            have e0 := frozen_of_row _ _ 0 _ _ ga
            have e1 := frozen_of_row _ _ 1 _ _ ga
            have e2 := frozen_of_row _ _ 2 _ _ ga
            have r0 := cell_of_row _ _ 0 _ _ (0, 0) ga
            have r1 := cell_of_row _ _ 1 _ _ (0, 0) ga
            have r2 := cell_of_row _ _ 2 _ _ (0, 0) ga
            clear ga
            go_upto_region 8 with fail
            generalize w1.alloc (.cells #[.bool bx, .slice a8 n8 c8, .slice a9 n9 c9] 27) = W8 at *
            generalize w1.heap.size = g10 at *
            clear e0 e1 e2 r0 r1 r2 t10 t11 t12 t20 t21 t22
            have HO8 := Lib.hid (show OldP W8 u12 ∧ OldP W8 u13 ∧ OldP W8 u14 ∧ OldP W8 u15 ∧ OldP W8 u16 from
              ⟨HO.out.1.mono HW.out.size, HO.out.2.1.mono HW.out.size, HO.out.2.2.1.mono HW.out.size, HO.out.2.2.2.1.mono HW.out.size, HO.out.2.2.2.2.mono HW.out.size⟩)
            have H8 := HLP8.out.st
            have sa := SA.out
            have sb := SB.out
            have hsl := SL.out
            have hl6 := HL6.out
            refine wp_region_box (suOf W8.heap.size (rsL8 u0 u1 u2 u3 u4 u5 vl qa qb ql)) (fun wx => Below W8.heap.size W8 wx) W8.heap.size 27 3 [12, 13, 14, 15, 16] rsD8 rsK8 (by kernel_rfl) (by kernel_rfl) (by kernel_rfl) (by kernel_rfl) size_Rat
              (fun _ _ _ _ h hr => Su.stab h hr) (fun _ _ h hr => h.trans hr.bel) (Below.refl _ _).drew (Nat.le_refl _) (dist_old5 HO8.out.1 HO8.out.2.1 HO8.out.2.2.1 HO8.out.2.2.2.1 HO8.out.2.2.2.2) ?steps ?hend
            case steps =>
              refine ⟨fun r wx ho hI hB hA => .inl ⟨rfl, brings_load_row (show r 3 = .pointer (some ⟨j1, 0, none⟩) from ho 3 (by decide)) ((H8.call hI).r1) rfl ⟨Below.refl _ _, rfl⟩⟩, ?_⟩
              refine ⟨fun r wx ho hI hB hA => .inl ⟨rfl, brings_load_row (show r 4 = .pointer (some ⟨j2, 0, none⟩) from ho 4 (by decide)) ((H8.call hI).r2) rfl ⟨Below.refl _ _, rfl⟩⟩, ?_⟩
              refine ⟨fun r wx ho hI hB hA => .inl ⟨rfl, brings_call [(.agg #[u0, u1, u2]), (.agg #[u3, u4, u5])] (ent_8) (args2 (show r 48 = (.agg #[u0, u1, u2]) from hA.1) (show r 49 = (.agg #[u3, u4, u5]) from hA.2.1)) (callRR (p := addP qa qb) (radd_q (H8.call hI).a (H8.call hI).b sa sb) hB)⟩, ?_⟩
              refine ⟨fun r wx ho hI hB hA => .inl ⟨rfl, brings_load_row (show r 3 = .pointer (some ⟨j1, 0, none⟩) from ho 3 (by decide)) ((H8.call hI).r1) rfl ⟨Below.refl _ _, rfl⟩⟩, ?_⟩
              refine ⟨fun r wx ho hI hB hA => .inl ⟨rfl, brings_load_row (show r 4 = .pointer (some ⟨j2, 0, none⟩) from ho 4 (by decide)) ((H8.call hI).r2) rfl ⟨Below.refl _ _, rfl⟩⟩, ?_⟩
              refine ⟨fun r wx ho hI hB hA => .inl ⟨rfl, brings_call [(.agg #[u0, u1, u2]), (.agg #[u3, u4, u5])] (ent_9) (args2 (show r 51 = (.agg #[u0, u1, u2]) from hA.1) (show r 52 = (.agg #[u3, u4, u5]) from hA.2.1)) (callRR (p := subP qa qb) (rsub_q (H8.call hI).a (H8.call hI).b sa sb) hB)⟩, ?_⟩
              refine ⟨fun r wx ho hI hB hA => .inl ⟨rfl, brings_load_row (show r 3 = .pointer (some ⟨j1, 0, none⟩) from ho 3 (by decide)) ((H8.call hI).r1) rfl ⟨Below.refl _ _, rfl⟩⟩, ?_⟩
              refine ⟨fun r wx ho hI hB hA => .inl ⟨rfl, brings_load_row (show r 4 = .pointer (some ⟨j2, 0, none⟩) from ho 4 (by decide)) ((H8.call hI).r2) rfl ⟨Below.refl _ _, rfl⟩⟩, ?_⟩
              refine ⟨fun r wx ho hI hB hA => .inl ⟨rfl, brings_call [(.agg #[u0, u1, u2]), (.agg #[u3, u4, u5])] (ent_10) (args2 (show r 54 = (.agg #[u0, u1, u2]) from hA.1) (show r 55 = (.agg #[u3, u4, u5]) from hA.2.1)) (callRR (p := mulP qa qb) (rmul_q (H8.call hI).a (H8.call hI).b sa sb) hB)⟩, ?_⟩
              refine ⟨fun r wx ho hI hB hA => .inl ⟨rfl, brings_load_row (show r 3 = .pointer (some ⟨j1, 0, none⟩) from ho 3 (by decide)) ((H8.call hI).r1) rfl ⟨Below.refl _ _, rfl⟩⟩, ?_⟩
              refine ⟨fun r wx ho hI hB hA => .inl ⟨rfl, brings_call [(.agg #[u0, u1, u2])] (ent_11) (args1 (show r 57 = (.agg #[u0, u1, u2]) from hA.1)) (callRR (p := negP qa) (rneg_q (H8.call hI).a sa) hB)⟩, ?_⟩
              refine ⟨fun r wx ho hI hB hA => .inl ⟨rfl, brings_move (v := vl) (show r 2 = vl from ho 2 (by decide)) ⟨Below.refl _ _, rfl⟩⟩, ?_⟩
              refine ⟨fun r wx ho hI hB hA => .inl ⟨rfl, brings_call [vl] (ent_12) (args1 (show r 59 = vl from hA.1)) (callRR (p := sumQ ql) (rsum_calls vl ql wx (H8.call hI).l hsl (Nat.le_trans hl6 (by decide))) hB)⟩, ?_⟩
              refine ⟨fun r wx => brings_alloc_rat r _ _ _ _ _ wx, ?_⟩
              refine ⟨fun r wx => brings_alloc_rat r _ _ _ _ _ wx, ?_⟩
              refine ⟨fun r wx => brings_alloc_rat r _ _ _ _ _ wx, ?_⟩
              refine ⟨fun r wx => brings_alloc_rat r _ _ _ _ _ wx, ?_⟩
              refine ⟨fun r wx => brings_alloc_rat r _ _ _ _ _ wx, ?_⟩
              refine ⟨⟨rfl, fun wx v h => rr_store h⟩, ?_⟩
              refine ⟨⟨rfl, fun wx v h => rr_store h⟩, ?_⟩
              refine ⟨⟨rfl, fun wx v h => rr_store h⟩, ?_⟩
              refine ⟨⟨rfl, fun wx v h => rr_store h⟩, ?_⟩
              refine ⟨⟨rfl, fun wx v h => rr_store h⟩, ?_⟩
              exact trivial
            case hend =>
              clear H8 sa sb hsl hl6
              intro r w8 hI hB ho hT hD
              obtain ⟨g12, q12, B12⟩ := RBox.of (hT 18 (by decide) _ _ rfl rfl) (show RR (addP qa qb).1 (addP qa qb).2 W8.heap.size w8 (r 50) from hT 2 (by decide) _ _ rfl rfl 50 rfl)
              obtain ⟨g13, q13, B13⟩ := RBox.of (hT 19 (by decide) _ _ rfl rfl) (show RR (subP qa qb).1 (subP qa qb).2 W8.heap.size w8 (r 53) from hT 5 (by decide) _ _ rfl rfl 53 rfl)
              obtain ⟨g14, q14, B14⟩ := RBox.of (hT 20 (by decide) _ _ rfl rfl) (show RR (mulP qa qb).1 (mulP qa qb).2 W8.heap.size w8 (r 56) from hT 8 (by decide) _ _ rfl rfl 56 rfl)
              obtain ⟨g15, q15, B15⟩ := RBox.of (hT 21 (by decide) _ _ rfl rfl) (show RR (negP qa).1 (negP qa).2 W8.heap.size w8 (r 58) from hT 10 (by decide) _ _ rfl rfl 58 rfl)
              obtain ⟨g16, q16, B16⟩ := RBox.of (hT 22 (by decide) _ _ rfl rfl) (show RR (sumQ ql).1 (sumQ ql).2 W8.heap.size w8 (r 60) from hT 12 (by decide) _ _ rfl rfl 60 rfl)
              have HB10 := Lib.hid (HX.out.below hI)
              have HB12 := Lib.hid B12
              have HB13 := Lib.hid B13
              have HB14 := Lib.hid B14
              have HB15 := Lib.hid B15
              have HB16 := Lib.hid B16
              have HLP9 := Lib.hid (HLP8.out.call hI)
              have HW9 := Lib.hid (HW.out.trans (hI.mono HW.out.size))
              clear B12 B13 B14 B15 B16 hI hB ho hT hD HX HO8 HLP8
              simp only [puts, rsD8]
              rw [q12, q13, q14, q15, q16]
              clear q12 q13 q14 q15 q16
              generalize r = r8 at *
              simp only [Act.put, List.setIfInBounds_toArray, List.set_cons_zero, List.set_cons_succ]
              go_upto_region 9 with fail
              have H9 := HLP9.out.st
              have sa := SA.out
              have sb := SB.out
              have hsl := SL.out
              have hl6 := HL6.out
              have H7 := HLP9.out.q
              have H10 := HB10.out.sl
              have H12 := HB12.out.sl
              have H13 := HB13.out.sl
              have H14 := HB14.out.sl
              have H15 := HB15.out.sl
              have H16 := HB16.out.sl
              refine wp_region_plain (spOf (rsL9 er u0 u1 u2 u3 u4 u5 vl qa qb ql)) (fun wx => Below w8.heap.size w8 wx) (fun w w' => Below w.heap.size w w') rsD9 rsG9 (by kernel_rfl) (by kernel_rfl) (by kernel_rfl) (by kernel_rfl) (by kernel_rfl)
                (fun _ _ _ _ h hb => Sp.stab h hb) (fun _ => Below.refl _ _) (Below.refl _ _).drew ?steps9 ?hend9
              case steps9 =>
                refine ⟨fun r wx ho hI hA => .inl ⟨rfl, brings_move (v := .int .i64 er) (show r 8 = .int .i64 er from ho 8 (by decide)) ⟨hI, Below.refl _ _, rfl⟩⟩, ?_⟩
                refine ⟨fun r wx ho hI hA => .inl ⟨rfl, brings_move (v := .int .i64 er) (show r 11 = .int .i64 er from ho 11 (by decide)) ⟨hI, Below.refl _ _, rfl⟩⟩, ?_⟩
                refine ⟨fun r wx ho hI hA => .inl ⟨rfl, brings_bin (v := .bool false) (show r 61 = .int .i64 er from hA.1) (show r 62 = .int .i64 er from hA.2.1) (neq_same _ _ _ _) ⟨hI, Below.refl _ _, rfl⟩⟩, ?_⟩
                refine ⟨fun r wx ho hI hA => .inl ⟨rfl, brings_move (v := .bool false) (show r 63 = .bool false from hA.1) ⟨hI, Below.refl _ _, rfl⟩⟩, ?_⟩
                refine ⟨fun r wx ho hI hA => .inl ⟨wants_b (show r 64 = .bool false from hA.1), brings_load_sl (q := g10) (show r 10 = .pointer (some ⟨g10, 0, none⟩) from ho 10 (by decide)) (Sl.below H10 hI) fun v hv => ⟨hI, Below.refl _ _, hv⟩⟩, ?_⟩
                refine ⟨fun r wx ho hI hA => .inl ⟨wants_b (show r 64 = .bool false from hA.1), brings_load_sl (q := g7) (show r 7 = .pointer (some ⟨g7, 0, none⟩) from ho 7 (by decide)) (Sl.below H7 hI) fun v hv => ⟨hI, Below.refl _ _, hv⟩⟩, ?_⟩
                refine ⟨fun r wx ho hI hA => .inl ⟨wants_b (show r 64 = .bool false from hA.2.2.1), brings_call [r 65, r 66] (ent_13) rfl (callV (is_q (p := quoP qa qb) hA.1 hA.2.1 (len_quo sa sb)) fun _ hb => hI.trans (hb.mono hI.size))⟩, ?_⟩
                refine ⟨fun r wx ho hI hA => .inl ⟨wants_b (show r 64 = .bool false from hA.2.1), brings_not (b := true) (show r 67 = .bool true from hA.1) ⟨hI, Below.refl _ _, rfl⟩⟩, ?_⟩
                refine ⟨fun r wx ho hI hA => .inl ⟨rfl, brings_pick (b := false) (show r 64 = .bool false from hA.1) ⟨hI, Below.refl _ _, show r 68 = .bool false from hA.2.1⟩⟩, ?_⟩
                refine ⟨fun r wx ho hI hA => .inl ⟨rfl, brings_move (v := .bool false) (show r 69 = .bool false from hA.1) ⟨hI, Below.refl _ _, rfl⟩⟩, ?_⟩
                refine ⟨fun r wx ho hI hA => .inl ⟨wants_b (show r 70 = .bool false from hA.1), brings_load_sl (q := g12) (show r 12 = .pointer (some ⟨g12, 0, none⟩) from ho 12 (by decide)) (Sl.below H12 hI) fun v hv => ⟨hI, Below.refl _ _, hv⟩⟩, ?_⟩
                refine ⟨fun r wx ho hI hA => .inl ⟨wants_b (show r 70 = .bool false from hA.1), brings_load_row (show r 3 = .pointer (some ⟨j1, 0, none⟩) from ho 3 (by decide)) ((H9.call hI).r1) rfl ⟨hI, Below.refl _ _, rfl⟩⟩, ?_⟩
                refine ⟨fun r wx ho hI hA => .inl ⟨wants_b (show r 70 = .bool false from hA.1), brings_load_row (show r 4 = .pointer (some ⟨j2, 0, none⟩) from ho 4 (by decide)) ((H9.call hI).r2) rfl ⟨hI, Below.refl _ _, rfl⟩⟩, ?_⟩
                refine ⟨fun r wx ho hI hA => .inl ⟨wants_b (show r 70 = .bool false from hA.2.2.1), brings_call [(.agg #[u0, u1, u2]), (.agg #[u3, u4, u5])] (ent_14) (args2 (show r 72 = (.agg #[u0, u1, u2]) from hA.1) (show r 73 = (.agg #[u3, u4, u5]) from hA.2.1)) (callRF (p := addP qa qb) (add6_q (H9.call hI).a (H9.call hI).b sa sb) fun _ hb => hI.trans (hb.mono hI.size))⟩, ?_⟩
                refine ⟨fun r wx ho hI hA => .inl ⟨wants_b (show r 70 = .bool false from hA.2.2.1), brings_call [r 71, r 74] (ent_13) rfl (callV (is_q (p := addP qa qb) hA.1 hA.2.1 (len_add sa sb)) fun _ hb => hI.trans (hb.mono hI.size))⟩, ?_⟩
                refine ⟨fun r wx ho hI hA => .inl ⟨wants_b (show r 70 = .bool false from hA.2.1), brings_not (b := true) (show r 75 = .bool true from hA.1) ⟨hI, Below.refl _ _, rfl⟩⟩, ?_⟩
                refine ⟨fun r wx ho hI hA => .inl ⟨rfl, brings_pick (b := false) (show r 70 = .bool false from hA.1) ⟨hI, Below.refl _ _, show r 76 = .bool false from hA.2.1⟩⟩, ?_⟩
                refine ⟨fun r wx ho hI hA => .inl ⟨rfl, brings_move (v := .bool false) (show r 77 = .bool false from hA.1) ⟨hI, Below.refl _ _, rfl⟩⟩, ?_⟩
                refine ⟨fun r wx ho hI hA => .inl ⟨wants_b (show r 78 = .bool false from hA.1), brings_load_sl (q := g13) (show r 13 = .pointer (some ⟨g13, 0, none⟩) from ho 13 (by decide)) (Sl.below H13 hI) fun v hv => ⟨hI, Below.refl _ _, hv⟩⟩, ?_⟩
                refine ⟨fun r wx ho hI hA => .inl ⟨wants_b (show r 78 = .bool false from hA.1), brings_load_row (show r 3 = .pointer (some ⟨j1, 0, none⟩) from ho 3 (by decide)) ((H9.call hI).r1) rfl ⟨hI, Below.refl _ _, rfl⟩⟩, ?_⟩
                refine ⟨fun r wx ho hI hA => .inl ⟨wants_b (show r 78 = .bool false from hA.1), brings_load_row (show r 4 = .pointer (some ⟨j2, 0, none⟩) from ho 4 (by decide)) ((H9.call hI).r2) rfl ⟨hI, Below.refl _ _, rfl⟩⟩, ?_⟩
                refine ⟨fun r wx ho hI hA => .inl ⟨wants_b (show r 78 = .bool false from hA.2.2.1), brings_call [(.agg #[u0, u1, u2]), (.agg #[u3, u4, u5])] (ent_15) (args2 (show r 80 = (.agg #[u0, u1, u2]) from hA.1) (show r 81 = (.agg #[u3, u4, u5]) from hA.2.1)) (callRF (p := subP qa qb) (sub6_q (H9.call hI).a (H9.call hI).b sa sb) fun _ hb => hI.trans (hb.mono hI.size))⟩, ?_⟩
                refine ⟨fun r wx ho hI hA => .inl ⟨wants_b (show r 78 = .bool false from hA.2.2.1), brings_call [r 79, r 82] (ent_13) rfl (callV (is_q (p := subP qa qb) hA.1 hA.2.1 (len_sub sa sb)) fun _ hb => hI.trans (hb.mono hI.size))⟩, ?_⟩
                refine ⟨fun r wx ho hI hA => .inl ⟨wants_b (show r 78 = .bool false from hA.2.1), brings_not (b := true) (show r 83 = .bool true from hA.1) ⟨hI, Below.refl _ _, rfl⟩⟩, ?_⟩
                refine ⟨fun r wx ho hI hA => .inl ⟨rfl, brings_pick (b := false) (show r 78 = .bool false from hA.1) ⟨hI, Below.refl _ _, show r 84 = .bool false from hA.2.1⟩⟩, ?_⟩
                refine ⟨fun r wx ho hI hA => .inl ⟨rfl, brings_move (v := .bool false) (show r 85 = .bool false from hA.1) ⟨hI, Below.refl _ _, rfl⟩⟩, ?_⟩
                refine ⟨fun r wx ho hI hA => .inl ⟨wants_b (show r 86 = .bool false from hA.1), brings_load_sl (q := g14) (show r 14 = .pointer (some ⟨g14, 0, none⟩) from ho 14 (by decide)) (Sl.below H14 hI) fun v hv => ⟨hI, Below.refl _ _, hv⟩⟩, ?_⟩
                refine ⟨fun r wx ho hI hA => .inl ⟨wants_b (show r 86 = .bool false from hA.1), brings_load_row (show r 3 = .pointer (some ⟨j1, 0, none⟩) from ho 3 (by decide)) ((H9.call hI).r1) rfl ⟨hI, Below.refl _ _, rfl⟩⟩, ?_⟩
                refine ⟨fun r wx ho hI hA => .inl ⟨wants_b (show r 86 = .bool false from hA.1), brings_load_row (show r 4 = .pointer (some ⟨j2, 0, none⟩) from ho 4 (by decide)) ((H9.call hI).r2) rfl ⟨hI, Below.refl _ _, rfl⟩⟩, ?_⟩
                refine ⟨fun r wx ho hI hA => .inl ⟨wants_b (show r 86 = .bool false from hA.2.2.1), brings_call [(.agg #[u0, u1, u2]), (.agg #[u3, u4, u5])] (ent_16) (args2 (show r 88 = (.agg #[u0, u1, u2]) from hA.1) (show r 89 = (.agg #[u3, u4, u5]) from hA.2.1)) (callRF (p := mulP qa qb) (mul6_q (H9.call hI).a (H9.call hI).b sa sb) fun _ hb => hI.trans (hb.mono hI.size))⟩, ?_⟩
                refine ⟨fun r wx ho hI hA => .inl ⟨wants_b (show r 86 = .bool false from hA.2.2.1), brings_call [r 87, r 90] (ent_13) rfl (callV (is_q (p := mulP qa qb) hA.1 hA.2.1 (len_mul sa sb)) fun _ hb => hI.trans (hb.mono hI.size))⟩, ?_⟩
                refine ⟨fun r wx ho hI hA => .inl ⟨wants_b (show r 86 = .bool false from hA.2.1), brings_not (b := true) (show r 91 = .bool true from hA.1) ⟨hI, Below.refl _ _, rfl⟩⟩, ?_⟩
                refine ⟨fun r wx ho hI hA => .inl ⟨rfl, brings_pick (b := false) (show r 86 = .bool false from hA.1) ⟨hI, Below.refl _ _, show r 92 = .bool false from hA.2.1⟩⟩, ?_⟩
                refine ⟨fun r wx ho hI hA => .inl ⟨rfl, brings_move (v := .bool false) (show r 93 = .bool false from hA.1) ⟨hI, Below.refl _ _, rfl⟩⟩, ?_⟩
                refine ⟨fun r wx ho hI hA => .inl ⟨wants_b (show r 94 = .bool false from hA.1), brings_load_sl (q := g15) (show r 15 = .pointer (some ⟨g15, 0, none⟩) from ho 15 (by decide)) (Sl.below H15 hI) fun v hv => ⟨hI, Below.refl _ _, hv⟩⟩, ?_⟩
                refine ⟨fun r wx ho hI hA => .inl ⟨wants_b (show r 94 = .bool false from hA.1), brings_load_row (show r 3 = .pointer (some ⟨j1, 0, none⟩) from ho 3 (by decide)) ((H9.call hI).r1) rfl ⟨hI, Below.refl _ _, rfl⟩⟩, ?_⟩
                refine ⟨fun r wx ho hI hA => .inl ⟨wants_b (show r 94 = .bool false from hA.2.1), brings_call [(.agg #[u0, u1, u2])] (ent_17) (args1 (show r 96 = (.agg #[u0, u1, u2]) from hA.1)) (callRF (p := negP qa) (neg6_q (H9.call hI).a sa) fun _ hb => hI.trans (hb.mono hI.size))⟩, ?_⟩
                refine ⟨fun r wx ho hI hA => .inl ⟨wants_b (show r 94 = .bool false from hA.2.2.1), brings_call [r 95, r 97] (ent_13) rfl (callV (is_q (p := negP qa) hA.1 hA.2.1 (len_neg sa)) fun _ hb => hI.trans (hb.mono hI.size))⟩, ?_⟩
                refine ⟨fun r wx ho hI hA => .inl ⟨wants_b (show r 94 = .bool false from hA.2.1), brings_not (b := true) (show r 98 = .bool true from hA.1) ⟨hI, Below.refl _ _, rfl⟩⟩, ?_⟩
                refine ⟨fun r wx ho hI hA => .inl ⟨rfl, brings_pick (b := false) (show r 94 = .bool false from hA.1) ⟨hI, Below.refl _ _, show r 99 = .bool false from hA.2.1⟩⟩, ?_⟩
                refine ⟨fun r wx ho hI hA => .inl ⟨rfl, brings_move (v := .bool false) (show r 100 = .bool false from hA.1) ⟨hI, Below.refl _ _, rfl⟩⟩, ?_⟩
                refine ⟨fun r wx ho hI hA => .inl ⟨wants_b (show r 101 = .bool false from hA.1), brings_load_sl (q := g16) (show r 16 = .pointer (some ⟨g16, 0, none⟩) from ho 16 (by decide)) (Sl.below H16 hI) fun v hv => ⟨hI, Below.refl _ _, hv⟩⟩, ?_⟩
                refine ⟨fun r wx ho hI hA => .inl ⟨wants_b (show r 101 = .bool false from hA.1), brings_move (v := vl) (show r 2 = vl from ho 2 (by decide)) ⟨hI, Below.refl _ _, rfl⟩⟩, ?_⟩
                refine ⟨fun r wx ho hI hA => .inl ⟨wants_b (show r 101 = .bool false from hA.2.1), brings_call [vl] (ent_18) (args1 (show r 103 = vl from hA.1)) (callRF (p := sumQ ql) (sum6_calls vl ql wx (H9.call hI).l hsl hl6) fun _ hb => hI.trans (hb.mono hI.size))⟩, ?_⟩
                refine ⟨fun r wx ho hI hA => .inl ⟨wants_b (show r 101 = .bool false from hA.2.2.1), brings_call [r 102, r 104] (ent_13) rfl (callV (is_q (p := sumQ ql) hA.1 hA.2.1 (len_sum hsl hl6)) fun _ hb => hI.trans (hb.mono hI.size))⟩, ?_⟩
                refine ⟨fun r wx ho hI hA => .inl ⟨wants_b (show r 101 = .bool false from hA.2.1), brings_not (b := true) (show r 105 = .bool true from hA.1) ⟨hI, Below.refl _ _, rfl⟩⟩, ?_⟩
                refine ⟨fun r wx ho hI hA => .inl ⟨rfl, brings_pick (b := false) (show r 101 = .bool false from hA.1) ⟨hI, Below.refl _ _, show r 106 = .bool false from hA.2.1⟩⟩, ?_⟩
                exact trivial
              case hend9 =>
                clear H9 sa sb hsl hl6 H7 H10 H12 H13 H14 H15 H16
                intro r w9 hI hS
                have q107 : r 107 = .bool false := hS 107 (by decide)
                have HS10 := Lib.hid ((HB10.out.below hI).sbox (len_quo SA.out SB.out))
                have HS12 := Lib.hid (((HB12.out.below hI).mono HW.out.size).sbox (len_add SA.out SB.out))
                have HS13 := Lib.hid (((HB13.out.below hI).mono HW.out.size).sbox (len_sub SA.out SB.out))
                have HS14 := Lib.hid (((HB14.out.below hI).mono HW.out.size).sbox (len_mul SA.out SB.out))
                have HS15 := Lib.hid (((HB15.out.below hI).mono HW.out.size).sbox (len_neg SA.out))
                have HS16 := Lib.hid (((HB16.out.below hI).mono HW.out.size).sbox (len_sum SL.out HL6.out))
                have HWx := Lib.hid (HW9.out.trans (hI.mono HW9.out.size))
                have HG := Lib.hid (show g12 < w8.heap.size ∧ g13 < w8.heap.size ∧ g14 < w8.heap.size ∧ g15 < w8.heap.size ∧ g16 < w8.heap.size from ⟨HB12.out.lt, HB13.out.lt, HB14.out.lt, HB15.out.lt, HB16.out.lt⟩)
                have HZ := Lib.hid hI.size
                clear hI hS HB10 HB12 HB13 HB14 HB15 HB16 HW HW9 HLP9
                simp only [puts, rsD9]
                rw [q107]
                clear q107
                generalize r = r9 at *
                simp only [Act.put, List.setIfInBounds_toArray, List.set_cons_zero, List.set_cons_succ]
                obtain ⟨b10, a10, n10, c10, p10, m10, d10, hrow, s1, s2, l1, l2⟩ := HS10.out
                have x0 := cell_of_row _ _ 0 _ _ (0, 0) hrow
                have x1 := cell_of_row _ _ 1 _ _ (0, 0) hrow
                have x2 := cell_of_row _ _ 2 _ _ (0, 0) hrow
                have HC := Lib.hid (spoil2_calls b10 _ _ _ _ _ _ s1 s2 HWx.out.size l1 l2)
                clear hrow s1 s2 l1 l2 HS10
                go_wp2_with fail
                refine HC.out.mono ?_
                rintro e y10 ⟨rfl, hfr⟩
                have HS12 := Lib.hid (HS12.out.fr hfr)
                have HS13 := Lib.hid (HS13.out.fr hfr)
                have HS14 := Lib.hid (HS14.out.fr hfr)
                have HS15 := Lib.hid (HS15.out.fr hfr)
                have HS16 := Lib.hid (HS16.out.fr hfr)
                have HWx := Lib.hid (HWx.out.trans hfr.bel)
                have HZ := Lib.hid (Nat.le_trans HZ.out hfr.bel.size)
                clear hfr HC x0 x1 x2
                obtain ⟨b12, a12, n12, c12, p12, m12, d12, hrow, s1, s2, l1, l2⟩ := HS12.out
                have x0 := cell_of_row _ _ 0 _ _ (0, 0) hrow
                have x1 := cell_of_row _ _ 1 _ _ (0, 0) hrow
                have x2 := cell_of_row _ _ 2 _ _ (0, 0) hrow
                have HC := Lib.hid (spoil2_calls b12 _ _ _ _ _ _ s1 s2 HWx.out.size l1 l2)
                clear hrow s1 s2 l1 l2 HS12
                go_wp2_with fail
                refine HC.out.mono ?_
                rintro e y12 ⟨rfl, hfr⟩
                have HS13 := Lib.hid (HS13.out.fr hfr)
                have HS14 := Lib.hid (HS14.out.fr hfr)
                have HS15 := Lib.hid (HS15.out.fr hfr)
                have HS16 := Lib.hid (HS16.out.fr hfr)
                have HWx := Lib.hid (HWx.out.trans hfr.bel)
                have HZ := Lib.hid (Nat.le_trans HZ.out hfr.bel.size)
                clear hfr HC x0 x1 x2
                obtain ⟨b13, a13, n13, c13, p13, m13, d13, hrow, s1, s2, l1, l2⟩ := HS13.out
                have x0 := cell_of_row _ _ 0 _ _ (0, 0) hrow
                have x1 := cell_of_row _ _ 1 _ _ (0, 0) hrow
                have x2 := cell_of_row _ _ 2 _ _ (0, 0) hrow
                have HC := Lib.hid (spoil2_calls b13 _ _ _ _ _ _ s1 s2 HWx.out.size l1 l2)
                clear hrow s1 s2 l1 l2 HS13
                go_wp2_with fail
                refine HC.out.mono ?_
                rintro e y13 ⟨rfl, hfr⟩
                have HS14 := Lib.hid (HS14.out.fr hfr)
                have HS15 := Lib.hid (HS15.out.fr hfr)
                have HS16 := Lib.hid (HS16.out.fr hfr)
                have HWx := Lib.hid (HWx.out.trans hfr.bel)
                have HZ := Lib.hid (Nat.le_trans HZ.out hfr.bel.size)
                clear hfr HC x0 x1 x2
                obtain ⟨b14, a14, n14, c14, p14, m14, d14, hrow, s1, s2, l1, l2⟩ := HS14.out
                have x0 := cell_of_row _ _ 0 _ _ (0, 0) hrow
                have x1 := cell_of_row _ _ 1 _ _ (0, 0) hrow
                have x2 := cell_of_row _ _ 2 _ _ (0, 0) hrow
                have HC := Lib.hid (spoil2_calls b14 _ _ _ _ _ _ s1 s2 HWx.out.size l1 l2)
                clear hrow s1 s2 l1 l2 HS14
                go_wp2_with fail
                refine HC.out.mono ?_
                rintro e y14 ⟨rfl, hfr⟩
                have HS15 := Lib.hid (HS15.out.fr hfr)
                have HS16 := Lib.hid (HS16.out.fr hfr)
                have HWx := Lib.hid (HWx.out.trans hfr.bel)
                have HZ := Lib.hid (Nat.le_trans HZ.out hfr.bel.size)
                clear hfr HC x0 x1 x2
                obtain ⟨b15, a15, n15, c15, p15, m15, d15, hrow, s1, s2, l1, l2⟩ := HS15.out
                have x0 := cell_of_row _ _ 0 _ _ (0, 0) hrow
                have x1 := cell_of_row _ _ 1 _ _ (0, 0) hrow
                have x2 := cell_of_row _ _ 2 _ _ (0, 0) hrow
                have HC := Lib.hid (spoil2_calls b15 _ _ _ _ _ _ s1 s2 HWx.out.size l1 l2)
                clear hrow s1 s2 l1 l2 HS15
                go_wp2_with fail
                refine HC.out.mono ?_
                rintro e y15 ⟨rfl, hfr⟩
                have HS16 := Lib.hid (HS16.out.fr hfr)
                have HWx := Lib.hid (HWx.out.trans hfr.bel)
                have HZ := Lib.hid (Nat.le_trans HZ.out hfr.bel.size)
                clear hfr HC x0 x1 x2
                obtain ⟨b16, a16, n16, c16, p16, m16, d16, hrow, s1, s2, l1, l2⟩ := HS16.out
                have x0 := cell_of_row _ _ 0 _ _ (0, 0) hrow
                have x1 := cell_of_row _ _ 1 _ _ (0, 0) hrow
                have x2 := cell_of_row _ _ 2 _ _ (0, 0) hrow
                have HC := Lib.hid (spoil2_calls b16 _ _ _ _ _ _ s1 s2 HWx.out.size l1 l2)
                clear hrow s1 s2 l1 l2 HS16
                go_wp2_with fail
                refine HC.out.mono ?_
                rintro e y16 ⟨rfl, hfr⟩
                have HWx := Lib.hid (HWx.out.trans hfr.bel)
                have HZ := Lib.hid (Nat.le_trans HZ.out hfr.bel.size)
                clear hfr HC x0 x1 x2
                have HLPf := Lib.hid (HLP.out.call HWx.out)
                have HOf := Lib.hid (show OldP y16 (.pointer (some ⟨g12, 0, none⟩)) ∧ OldP y16 (.pointer (some ⟨g13, 0, none⟩)) ∧ OldP y16 (.pointer (some ⟨g14, 0, none⟩)) ∧ OldP y16 (.pointer (some ⟨g15, 0, none⟩)) ∧ OldP y16 (.pointer (some ⟨g16, 0, none⟩)) from
                  ⟨OldP.ptr (Nat.lt_of_lt_of_le HG.out.1 HZ.out), OldP.ptr (Nat.lt_of_lt_of_le HG.out.2.1 HZ.out), OldP.ptr (Nat.lt_of_lt_of_le HG.out.2.2.1 HZ.out), OldP.ptr (Nat.lt_of_lt_of_le HG.out.2.2.2.1 HZ.out), OldP.ptr (Nat.lt_of_lt_of_le HG.out.2.2.2.2 HZ.out)⟩)
                go_wp2_with fail
                go_roundw
                case rel => exact ⟨k + 1, by omega, by go_num, HLPf, HOf⟩
                case measure => simp only [intOf]; omega
          · have hk3 : ¬ ((k : Int) < 2) := by omega
            have hcv : cmpP qa qb = -1 ∨ cmpP qa qb = 0 ∨ cmpP qa qb = 1 := by
              unfold cmpP cmpI
              split
              · simp
              · split <;> simp
            have HC1 := Lib.hid (cmp6_q HLP.out.st.a HLP.out.st.b SA.out SB.out)
            have HC2 := Lib.hid (fun wx (hb : Below wr.heap.size wr wx) => rcmp_q (HLP.out.call hb).st.a (HLP.out.call hb).st.b SA.out SB.out)
            have HC3 := Lib.hid (fun wx (hb : Below wr.heap.size wr wx) => rsame_q (HLP.out.call hb).st.a (HLP.out.call hb).st.b SA.out SB.out)
            rcases hcv with hcv | hcv | hcv
            · rw [hcv, show ((-1 : Int) == 0) = false from rfl] at HC3
              rw [hcv] at HC1 HC2
              clear hcv
              go_wp2_with fail
              refine HC1.out.mono ?_
              rintro e w1 ⟨rfl, hb⟩
              have HW1 := Lib.hid hb
              clear hb t10 t11 t12 t20 t21 t22
              obtain ⟨⟨t10, t11, t12⟩, t20, t21, t22⟩ := (HLP.out.st.call HW1.out).cells
              go_wp2_with fail
              refine (HC2.out _ HW1.out).mono ?_
              rintro e w2 ⟨rfl, hb⟩
              have HW2 := Lib.hid (HW1.out.trans (hb.mono HW1.out.size))
              clear hb t10 t11 t12 t20 t21 t22
              obtain ⟨⟨t10, t11, t12⟩, t20, t21, t22⟩ := (HLP.out.st.call HW2.out).cells
              go_wp2_with fail
              refine (HC3.out _ HW2.out).mono ?_
              rintro e w3 ⟨rfl, hb⟩
              have HW3 := Lib.hid (HW2.out.trans (hb.mono HW2.out.size))
              clear hb t10 t11 t12 t20 t21 t22
              go_wp2_with fail
              refine (awake_b _).mono ?_
              rintro e w4 ⟨rfl, hb⟩
              have HF := Lib.hid (HLP.out.st.call (HW3.out.trans (hb.mono HW3.out.size))).bel
              clear hb
              go_wp2_with fail
              go_ret
              exact ⟨rfl, HF.out⟩
            · rw [hcv, show ((0 : Int) == 0) = true from rfl] at HC3
              rw [hcv] at HC1 HC2
              clear hcv
              go_wp2_with fail
              refine HC1.out.mono ?_
              rintro e w1 ⟨rfl, hb⟩
              have HW1 := Lib.hid hb
              clear hb t10 t11 t12 t20 t21 t22
              obtain ⟨⟨t10, t11, t12⟩, t20, t21, t22⟩ := (HLP.out.st.call HW1.out).cells
              go_wp2_with fail
              refine (HC2.out _ HW1.out).mono ?_
              rintro e w2 ⟨rfl, hb⟩
              have HW2 := Lib.hid (HW1.out.trans (hb.mono HW1.out.size))
              clear hb t10 t11 t12 t20 t21 t22
              obtain ⟨⟨t10, t11, t12⟩, t20, t21, t22⟩ := (HLP.out.st.call HW2.out).cells
              go_wp2_with fail
              refine (HC3.out _ HW2.out).mono ?_
              rintro e w3 ⟨rfl, hb⟩
              have HW3 := Lib.hid (HW2.out.trans (hb.mono HW2.out.size))
              clear hb t10 t11 t12 t20 t21 t22
              go_wp2_with fail
              refine (awake_b _).mono ?_
              rintro e w4 ⟨rfl, hb⟩
              have HF := Lib.hid (HLP.out.st.call (HW3.out.trans (hb.mono HW3.out.size))).bel
              clear hb
              go_wp2_with fail
              go_ret
              exact ⟨rfl, HF.out⟩
            · rw [hcv, show ((1 : Int) == 0) = false from rfl] at HC3
              rw [hcv] at HC1 HC2
              clear hcv
              go_wp2_with fail
              refine HC1.out.mono ?_
              rintro e w1 ⟨rfl, hb⟩
              have HW1 := Lib.hid hb
              clear hb t10 t11 t12 t20 t21 t22
              obtain ⟨⟨t10, t11, t12⟩, t20, t21, t22⟩ := (HLP.out.st.call HW1.out).cells
              go_wp2_with fail
              refine (HC2.out _ HW1.out).mono ?_
              rintro e w2 ⟨rfl, hb⟩
              have HW2 := Lib.hid (HW1.out.trans (hb.mono HW1.out.size))
              clear hb t10 t11 t12 t20 t21 t22
              obtain ⟨⟨t10, t11, t12⟩, t20, t21, t22⟩ := (HLP.out.st.call HW2.out).cells
              go_wp2_with fail
              refine (HC3.out _ HW2.out).mono ?_
              rintro e w3 ⟨rfl, hb⟩
              have HW3 := Lib.hid (HW2.out.trans (hb.mono HW2.out.size))
              clear hb t10 t11 t12 t20 t21 t22
              go_wp2_with fail
              refine (awake_b _).mono ?_
              rintro e w4 ⟨rfl, hb⟩
              have HF := Lib.hid (HLP.out.st.call (HW3.out.trans (hb.mono HW3.out.size))).bel
              clear hb
              go_wp2_with fail
              go_ret
              exact ⟨rfl, HF.out⟩

end Go.Proofs.YthlpfhenaakljaaGreatDoor

namespace Go.Proofs.YthlpfhenaakljaaGreatDoor
open Go.ChangeShapes Go.WideShapes Go.RowKit Go.Deep

section
variable {H : Type} {enc : TypeId × Value → H} {w : World} {base : Nat} {spare : Nat → Bool} {held : Bool}

theorem und_nat : Tryz.prog.underlying 23 = some (.slice 43) := by kernel_rfl
theorem und_u64 : Tryz.prog.underlying 43 = some (.int .u64) := by kernel_rfl
theorem und_rats : Tryz.prog.underlying 28 = some (.slice 27) := by kernel_rfl
theorem und_bool : Tryz.prog.underlying 4 = some .bool := by kernel_rfl
theorem cells_u64 : Tryz.prog.cellsOf 43 = 1 := by kernel_rfl
theorem cells_rat : Tryz.prog.cellsOf 27 = 3 := by kernel_rfl
theorem cells_int : Tryz.prog.cellsOf 25 = 2 := by kernel_rfl
theorem cells_nat : Tryz.prog.cellsOf 23 = 1 := by kernel_rfl
theorem cells_bool : Tryz.prog.cellsOf 4 = 1 := by kernel_rfl

theorem addr_of_cell {a : Addr} {v : Value} (h : w.cell? a = some v) : ∃ b off, a = ⟨b, off, none⟩ ∧ b < w.heap.size := by
  have hb := block_lt_of_cell h
  obtain ⟨b, off, s⟩ := a
  cases s with
  | none => exact ⟨b, off, rfl, hb⟩
  | some k =>
    unfold World.cell? at h
    split at h
    · simp at h
    · cases h

theorem und_frac : ∃ f0 f1 : Field, Tryz.prog.underlying 27 = some (.struct #[f0, f1]) ∧ f0.type = 25 ∧ f0.offset = 0 ∧ f1.type = 23 ∧ f1.offset = 2 := ⟨_, _, Tryz.underlying27, rfl, rfl, rfl, rfl⟩
theorem und_whole : ∃ f0 f1 : Field, Tryz.prog.underlying 25 = some (.struct #[f0, f1]) ∧ f0.type = 4 ∧ f0.offset = 0 ∧ f1.type = 23 ∧ f1.offset = 1 := ⟨_, _, Tryz.underlying25, rfl, rfl, rfl, rfl⟩

/-- A slice of words that reads as data reads as its words. -/
theorem nv_of_trod {n : Nat} {c : Value} {x : DataW H × List MemPlace} (h : DataW.trod enc Tryz.prog w base spare held n 23 [c] = some x) : ∃ xs, Nv w c xs := by
  rcases open_ints und_nat und_u64 cells_u64 h with ⟨hc, _⟩ | ⟨a, len, cap, zs, hc, hb, hl, hm, hlen, hx, hcell, hwf⟩
  · obtain rfl : c = .slice none 0 0 := by simpa using hc
    exact ⟨[], (No.nil 0 _).nv⟩
  · obtain rfl : c = .slice (some a) len cap := by simpa using hc
    have hle : len ≤ zs.length := by rw [hlen]; split <;> omega
    have hlt : ((zs.take len).map Int.toNat).length = len := by simp; omega
    have hz : ∀ z ∈ zs, 0 ≤ z ∧ z < 18446744073709551616 := fun z hz => by
      have := hwf z hz
      simp only [Lit.wf, Bool.and_eq_true, decide_eq_true_eq] at this
      have h1 : IntKind.u64.min = 0 := by decide
      have h2 : IntKind.u64.max = 18446744073709551615 := by decide
      rw [h1, h2] at this
      omega
    refine ⟨(zs.take len).map Int.toNat, ?_, some a, cap, by rw [hlt], by rw [hlt]; exact hl, ?_⟩
    · intro y hy
      obtain ⟨z, hzm, rfl⟩ := List.mem_map.1 hy
      have := hz z (List.mem_of_mem_take hzm)
      unfold B64
      omega
    · by_cases h0 : len = 0
      · left; subst h0; rfl
      · have h1 := hcell 0 (by omega)
        rw [show a.add 0 = a from rfl] at h1
        obtain ⟨b, off, rfl, hbl⟩ := addr_of_cell h1
        refine .inr ⟨b, off, rfl, hbl, fun j hj => ?_⟩
        rw [hlt] at hj
        have h2 := hcell j (by omega)
        rw [Addr.add_mid] at h2
        rw [h2]
        have hj' : j < zs.length := by omega
        have h3 := hz zs[j] (List.getElem_mem hj')
        simp only [List.getD_eq_getElem?_getD, List.getElem?_map, List.getElem?_take, hj, if_true, List.getElem?_eq_getElem hj', Option.map_some, Option.getD_some]
        congr 2
        omega

set_option maxRecDepth 100000 in
/-- Three cells that read as a fraction's data. -/
theorem qc_of_trod {n : Nat} {cs : List Value} {x : DataW H × List MemPlace} (h : DataW.trod enc Tryz.prog w base spare held n 27 cs = some x) :
    ∃ (q : Tq) (m1 m2 : Value), cs = [.bool q.1, m1, m2] ∧ Nv w m1 q.2.1 ∧ Nv w m2 q.2.2 := by
  obtain ⟨f0, f1, hu, t0, o0, t1, o1⟩ := und_frac
  obtain ⟨y0, y1, n1, _, hlen, h0, h1⟩ := trod_struct2 hu h
  rw [cells_rat] at hlen
  rw [t0, o0, cells_int] at h0
  rw [t1, o1, cells_nat] at h1
  match cs, hlen with
  | [c0, c1, c2], _ =>
    obtain ⟨xs2, hn2⟩ := nv_of_trod (show DataW.trod enc Tryz.prog w base spare held n1 23 [c2] = some y1 from h1)
    obtain ⟨g0, g1, hv, s0, p0, s1, p1⟩ := und_whole
    obtain ⟨z0, z1, n2, _, _, k0, k1⟩ := trod_struct2 hv (show DataW.trod enc Tryz.prog w base spare held n1 25 [c0, c1] = some y0 from h0)
    rw [s0, p0, cells_bool] at k0
    rw [s1, p1, cells_nat] at k1
    obtain ⟨b, hb, _⟩ := DataW.trod_bool und_bool (show DataW.trod enc Tryz.prog w base spare held n2 4 [c0] = some z0 from k0)
    obtain ⟨xs1, hn1⟩ := nv_of_trod (show DataW.trod enc Tryz.prog w base spare held n2 23 [c1] = some z1 from k1)
    obtain rfl : c0 = .bool b := by simpa using hb
    exact ⟨(b, xs1, xs2), c1, c2, rfl, hn1, hn2⟩

set_option maxRecDepth 100000 in
/-- An argument that is a fraction. -/
theorem qv_of_Trod {v : Value} {d : DataW H} {p : List MemPlace} {rc : Reach} {b0 : Nat} (hv : Value.okWide Tryz.prog w rc b0 27 v) (h : DataW.Trod enc Tryz.prog w base spare held 27 v d p) : ∃ q, Qv w v q := by
  obtain ⟨f0, f1, hu, _⟩ := und_frac
  obtain ⟨cs, rfl, _⟩ := okWide_struct hu hv
  obtain ⟨fuel, hf⟩ := h
  obtain ⟨q, m1, m2, hc, h1, h2⟩ := qc_of_trod hf
  refine ⟨q, m1, m2, ?_, h1, h2⟩
  obtain ⟨l⟩ := cs
  rw [show l = [.bool q.1, m1, m2] from hc]

set_option maxRecDepth 100000 in
/-- An argument that is a slice of fractions. -/
theorem lv_of_Trod {v : Value} {d : DataW H} {p : List MemPlace} {rc : Reach} {b0 : Nat} (hv : Value.okWide Tryz.prog w rc b0 28 v) (h : DataW.Trod enc Tryz.prog w base spare held 28 v d p) : ∃ qs, Lv w v qs ∧ (qs = [] ∨ ∃ el sp, d = .slice el sp ∧ el.length = qs.length) := by
  obtain ⟨fuel, hf⟩ := h
  obtain ⟨a0, l0, k0, rfl⟩ := okWide_slice und_rats hv
  rcases open_slice und_rats hf with ⟨hc, _⟩ | ⟨a, len, cap, m, n, D, Pl, hc, hb, hl, hm, hmm, hx, hi⟩
  · have hc' : Value.slice a0 l0 k0 = .slice none 0 0 := by simpa [Value.cells] using hc
    rw [hc']
    exact ⟨[], ⟨none, 0, rfl, Nat.le_refl _, .inl rfl⟩, .inl rfl⟩
  · have hc' : Value.slice a0 l0 k0 = .slice (some a) len cap := by simpa [Value.cells] using hc
    rw [hc']
    rw [cells_rat] at hi
    have hle : len ≤ m := by rw [hmm]; split <;> omega
    have hq : ∀ i, i < len → ∃ q : Tq, ∃ m1 m2 : Value, w.cell? (a.add (i * 3)) = some (.bool q.1) ∧ w.cell? ((a.add (i * 3)).add 1) = some m1 ∧ w.cell? ((a.add (i * 3)).add 2) = some m2 ∧ Nv w m1 q.2.1 ∧ Nv w m2 q.2.2 := by
      intro i him
      obtain ⟨cs', h1, h2⟩ := hi i (by omega)
      obtain ⟨_, _, hat⟩ := World.cells?_some h1
      obtain ⟨q, m1, m2, rfl, n1, n2⟩ := qc_of_trod h2
      exact ⟨q, m1, m2, by have := hat 0 (by omega); simpa [show (a.add (i * 3)).add 0 = a.add (i * 3) from rfl] using this, by simpa using hat 1 (by omega), by simpa using hat 2 (by omega), n1, n2⟩
    obtain ⟨f, hf'⟩ := choose_lt (n := len) (p := fun i (q : Tq) => ∃ m1 m2 : Value, w.cell? (a.add (i * 3)) = some (.bool q.1) ∧ w.cell? ((a.add (i * 3)).add 1) = some m1 ∧ w.cell? ((a.add (i * 3)).add 2) = some m2 ∧ Nv w m1 q.2.1 ∧ Nv w m2 q.2.2) hq
    have hlen : ((List.range len).map f).length = len := by simp
    refine ⟨(List.range len).map f, ⟨some a, cap, by rw [hlen], by rw [hlen]; exact hl, ?_⟩, .inr ⟨_, _, (Prod.mk.inj hx).1, by simp⟩⟩
    by_cases h0 : len = 0
    · left; subst h0; rfl
    · obtain ⟨m1, m2, c0, _⟩ := hf' 0 (by omega)
      rw [show a.add (0 * 3) = a from rfl] at c0
      obtain ⟨b, off, rfl, hbl⟩ := addr_of_cell c0
      refine .inr ⟨b, off, rfl, hbl, fun i q hiq => ?_⟩
      have hil : i < len := by
        have := (List.getElem?_eq_some_iff.1 hiq).1
        rwa [hlen] at this
      obtain ⟨m1, m2, c0, c1, c2, n1, n2⟩ := hf' i hil
      obtain rfl : f i = q := by simpa [hil] using hiq
      rw [Addr.add_mid] at c0 c1 c2
      rw [Addr.add_mid] at c1 c2
      exact ⟨m1, m2, c0, c1, c2, n1, n2⟩
end
end Go.Proofs.YthlpfhenaakljaaGreatDoor
