/- ref06.Gcd: the walk. ref06.Div. ref06.sign. ref06.Make. -/
import Derived.Test.YthlpfhenaakljaaGreatDoorL06
namespace Go.Proofs.YthlpfhenaakljaaGreatDoor
open Go.RowKit

theorem OddAt.lens {A0 B0 G A B : Nat} (h : OddAt A0 B0 G A B) (hl : (Dg.db B64 (A0 + B0)).length ≤ 1025) : (Dg.db B64 A).length ≤ 1025 ∧ (Dg.db B64 B).length ≤ 1025 :=
  ⟨Nat.le_trans (db_len_mono h.2.2.1) hl, Nat.le_trans (db_len_mono h.2.2.2) hl⟩
theorem OddAt.done {A0 B0 G A B : Nat} (h : OddAt A0 B0 G A B) (h0 : A = 0 ∨ B = 0) : A + B = G := by
  rcases h0 with rfl | rfl
  · rw [← h.1]; simp
  · rw [← h.1]; simp

set_option maxRecDepth 100000 in
set_option maxHeartbeats 12800000 in
theorem gcd2_calls (v1 v2 : Value) (xs ys : List Nat) (w : World) (h1 : Nv w v1 xs) (h2 : Nv w v2 ys) (l1 : xs.length ≤ 1024) (l2 : ys.length ≤ 1024) :
    Calls Tryz.prog 66 #[v1, v2] w (RetN (Dg.db B64 (Nat.gcd (Dg.dv B64 xs) (Dg.dv B64 ys))) w) := by
  have T1 := Lib.hid (trim2_calls v1 xs w h1 (by omega))
  have T2 := Lib.hid (fun wx (hb : Below w.heap.size w wx) => trim2_calls v2 ys wx (h2.below hb) (by omega))
  have L1 := Lib.hid (Nat.le_trans (Dg.db_length (b := B64) (by decide) (Dg.dv_lt xs h1.1)) l1)
  have L2 := Lib.hid (Nat.le_trans (Dg.db_length (b := B64) (by decide) (Dg.dv_lt ys h2.1)) l2)
  obtain ⟨_, a1, c1, rfl, _, _⟩ := id h1
  obtain ⟨_, a2, c2, rfl, _, _⟩ := id h2
  clear h1 h2
  generalize Dg.dv B64 xs = A0 at *
  generalize Dg.dv B64 ys = B0 at *
  have L3 := Lib.hid (Nat.le_trans (db_add_len (p := 1024) L1.out L2.out) (Nat.le_refl _))
  go_enter Tryz.func66, Tryz.ntmps66
  go_wp2_with fail
  refine T1.out.mono ?_
  rintro e w1 ⟨v1, rfl, hn1, hb1⟩
  obtain ⟨a3, c3, rfl⟩ := hn1.slice
  have T2 := Lib.hid (T2.out _ hb1)
  have HN1 := Lib.hid hn1
  have HB1 := Lib.hid hb1
  clear hn1 hb1
  go_wp2_with fail
  refine T2.out.mono ?_
  rintro e w2 ⟨v2, rfl, hn2, hb2⟩
  obtain ⟨a4, c4, rfl⟩ := hn2.slice
  have HAB := Lib.hid (show AB w (.slice a3 (Dg.db B64 A0).length c3) (.slice a4 (Dg.db B64 B0).length c4) A0 B0 w2 from ⟨HN1.out.below hb2, hn2.mono HB1.out.size, HB1.out.trans (hb2.mono HB1.out.size)⟩)
  clear hn2 hb2
  by_cases hA0 : A0 = 0
  · subst hA0
    have hl0 : (((Dg.db B64 0).length : Int) == 0) = true := by rw [Dg.db_zero]; rfl
    go_wp2_with fail
    go_ret
    exact ⟨.slice a4 (Dg.db B64 B0).length c4, rfl, by rw [Nat.gcd_zero_left]; exact HAB.out.nb, HAB.out.bel⟩
  have hlA := db_len_pos hA0
  have hlA2 : (((Dg.db B64 A0).length : Int) == 0) = false := by rw [beq_eq_false_iff_ne]; omega
  by_cases hB0 : B0 = 0
  · subst hB0
    have hl0 : (((Dg.db B64 0).length : Int) == 0) = true := by rw [Dg.db_zero]; rfl
    go_wp2_with fail
    go_ret
    exact ⟨.slice a3 (Dg.db B64 A0).length c3, rfl, by rw [Nat.gcd_zero_right]; exact HAB.out.na, HAB.out.bel⟩
  have hlB := db_len_pos hB0
  have hlB2 : (((Dg.db B64 B0).length : Int) == 0) = false := by rw [beq_eq_false_iff_ne]; omega
  have HST := Lib.hid (TwosAt.start hA0 hB0)
  clear hA0 hB0
  go_wp2_with fail
  go_loopw [0, 1, 5] (fun x y s wr => ∃ A B t : Nat, t ≤ 65536 ∧ s = .int .i64 t ∧ Hid (AB w x y A B wr) ∧ Hid (TwosAt A0 B0 A B t)) (fun x _ _ wr => valOf x wr)
  case atStart => exact ⟨A0, B0, 0, by omega, rfl, HAB, HST⟩
  case round =>
    clear HAB HST hlA hlA2 hlB hlB2
    obtain ⟨A, B, t, ht, rfl, hAB, hT⟩ := hrel
    obtain ⟨a5, c5, rfl⟩ := hAB.out.na.slice
    obtain ⟨a6, c6, rfl⟩ := hAB.out.nb.slice
    have HLA := Lib.hid (Nat.le_trans (db_len_mono hT.out.le.1) L1.out)
    have HLB := Lib.hid (Nat.le_trans (db_len_mono hT.out.le.2) L2.out)
    have HV0 := Lib.hid (show valOf (.slice a5 (Dg.db B64 A).length c5) wr = A by rw [hAB.out.na.nv.valOf, Dg.dv_db (by decide)])
    have K1 := Lib.hid (bit0_can hAB.out.na.nv (by have := HLA.out; omega))
    go_wp2_with fail
    refine K1.out.mono ?_
    rintro e w3 ⟨rfl, hb3⟩
    have hAB := Lib.hid (hAB.out.call hb3)
    clear hb3 K1
    by_cases ha : A % 2 = 1
    · rw [decide_eq_true ha]
      have HODD := Lib.hid (show ¬ (A % 2 = 0 ∧ B % 2 = 0) by omega)
      clear ha
      have HO := Lib.hid (show OddAt A0 B0 (Nat.gcd A B) A B from ⟨rfl, gcd_odd HODD.out, by have := hT.out.le; omega, by have := hT.out.le; omega⟩)
      go_wp2_with fail
      go_loopw [0, 1] (fun x y wr => ∃ C D : Nat, Hid (AB w x y C D wr) ∧ Hid (OddAt A0 B0 (Nat.gcd A B) C D)) (fun x y wr => valOf x wr + valOf y wr)
      case atStart => exact ⟨A, B, hAB, HO⟩
      case round =>
        clear hAB HO
        obtain ⟨C, D, hAB, hO⟩ := hrel
        obtain ⟨a7, c7, rfl⟩ := hAB.out.na.slice
        obtain ⟨a8, c8, rfl⟩ := hAB.out.nb.slice
        have HLC := Lib.hid (hO.out.lens L3.out)
        have HVC := Lib.hid (show valOf (.slice a7 (Dg.db B64 C).length c7) wr = C by rw [hAB.out.na.nv.valOf, Dg.dv_db (by decide)])
        have HVD := Lib.hid (show valOf (.slice a8 (Dg.db B64 D).length c8) wr = D by rw [hAB.out.nb.nv.valOf, Dg.dv_db (by decide)])
        by_cases hC0 : C = 0
        · have hlC : ¬ (((Dg.db B64 C).length : Int) > 0) := by rw [hC0, Dg.db_zero]; simp
          have H0X := Or.inl (b := D = 0) hC0
          clear hC0
          have HG := Lib.hid (hO.out.done H0X)
          have CA := Lib.hid (add_can hAB.out.na.nv hAB.out.nb.nv (by have := HLC.out; omega) (by have := HLC.out; omega))
          rw [HG.out] at CA
          have HLG := Lib.hid (show (Dg.db B64 (Nat.gcd A B)).length ≤ 524288 by
            have h1 := HLC.out
            have h2 := db_len_mono (show Nat.gcd A B ≤ C + D by rw [HG.out]; exact Nat.le_refl _)
            have h3 := db_add_len (p := 1025) h1.1 h1.2
            omega)
          go_wp2_with fail
          refine CA.out.mono ?_
          rintro e wA ⟨vA, rfl, hnA, hbA⟩
          obtain ⟨aA, cA, rfl⟩ := hnA.slice
          have CS := Lib.hid (shl_can (n := t) hnA.nv HLG.out ht)
          have HBA := Lib.hid (hAB.out.call hbA)
          clear hnA hbA
          go_wp2_with fail
          refine CS.out.mono ?_
          rintro e wB ⟨vB, rfl, hnB, hbB⟩
          obtain ⟨aB, cB, rfl⟩ := hnB.slice
          have HNB := Lib.hid (hnB.mono HBA.out.bel.size)
          have HBB := Lib.hid (HBA.out.call hbB)
          clear hnB hbB
          go_wp2_with fail
          go_ret
          exact ⟨.slice aB (Dg.db B64 (Nat.gcd A B * 2 ^ t)).length cB, rfl, by rw [show Nat.gcd A0 B0 = Nat.gcd A B * 2 ^ t from by rw [hT.out.2.2.1, Nat.mul_comm]]; exact HNB.out, HBB.out.bel⟩
        have hlC : ((Dg.db B64 C).length : Int) > 0 := by have := db_len_pos hC0; omega
        by_cases hD0 : D = 0
        · have hlD : ¬ (((Dg.db B64 D).length : Int) > 0) := by rw [hD0, Dg.db_zero]; simp
          have H0X := Or.inr (a := C = 0) hD0
          clear hD0 hC0
          have HG := Lib.hid (hO.out.done H0X)
          have CA := Lib.hid (add_can hAB.out.na.nv hAB.out.nb.nv (by have := HLC.out; omega) (by have := HLC.out; omega))
          rw [HG.out] at CA
          have HLG := Lib.hid (show (Dg.db B64 (Nat.gcd A B)).length ≤ 524288 by
            have h1 := HLC.out
            have h2 := db_len_mono (show Nat.gcd A B ≤ C + D by rw [HG.out]; exact Nat.le_refl _)
            have h3 := db_add_len (p := 1025) h1.1 h1.2
            omega)
          go_wp2_with fail
          refine CA.out.mono ?_
          rintro e wA ⟨vA, rfl, hnA, hbA⟩
          obtain ⟨aA, cA, rfl⟩ := hnA.slice
          have CS := Lib.hid (shl_can (n := t) hnA.nv HLG.out ht)
          have HBA := Lib.hid (hAB.out.call hbA)
          clear hnA hbA
          go_wp2_with fail
          refine CS.out.mono ?_
          rintro e wB ⟨vB, rfl, hnB, hbB⟩
          obtain ⟨aB, cB, rfl⟩ := hnB.slice
          have HNB := Lib.hid (hnB.mono HBA.out.bel.size)
          have HBB := Lib.hid (HBA.out.call hbB)
          clear hnB hbB
          go_wp2_with fail
          go_ret
          exact ⟨.slice aB (Dg.db B64 (Nat.gcd A B * 2 ^ t)).length cB, rfl, by rw [show Nat.gcd A0 B0 = Nat.gcd A B * 2 ^ t from by rw [hT.out.2.2.1, Nat.mul_comm]]; exact HNB.out, HBB.out.bel⟩
        have hlD : ((Dg.db B64 D).length : Int) > 0 := by have := db_len_pos hD0; omega
        have HC0 := Lib.hid hC0
        have HD0 := Lib.hid hD0
        clear hC0 hD0
        have C1 := small_can hAB.out.na.nv (by have := HLC.out; omega)
        generalize hx1 : (if C < B64 then C else 0) = x1 at C1
        generalize hs1 : decide (C < B64) = s1 at C1
        have HX1 := Lib.hid (And.intro hx1 hs1)
        have C1 := Lib.hid C1
        clear hx1 hs1
        go_wp2_with fail
        refine C1.out.mono ?_
        rintro e w3 ⟨rfl, hb3⟩
        have HAB := Lib.hid (hAB.out.call hb3)
        have C2 := small_can HAB.out.nb.nv (by have := HLC.out; omega)
        generalize hx2 : (if D < B64 then D else 0) = x2 at C2
        generalize hs2 : decide (D < B64) = s2 at C2
        have HX2 := Lib.hid (And.intro hx2 hs2)
        have C2 := Lib.hid C2
        clear hb3 C1 hx2 hs2
        go_wp2_with fail
        refine C2.out.mono ?_
        rintro e w4 ⟨rfl, hb4⟩
        have HAB := Lib.hid (HAB.out.call hb4)
        clear hb4 C2
        by_cases hs : C < B64 ∧ D < B64
        · obtain rfl : s1 = true := by rw [← HX1.out.2]; exact decide_eq_true hs.1
          obtain rfl : s2 = true := by rw [← HX2.out.2]; exact decide_eq_true hs.2
          obtain rfl : C = x1 := by rw [← HX1.out.1, if_pos hs.1]
          obtain rfl : D = x2 := by rw [← HX2.out.1, if_pos hs.2]
          have HCB := Lib.hid hs.1
          have HDB := Lib.hid hs.2
          clear hs
          go_wp2_with fail
          go_loopw [6, 8] (fun x y wi => ∃ p q : Nat, x = .int .u64 p ∧ y = .int .u64 q ∧ p ≤ 18446744073709551615 ∧ q ≤ 18446744073709551615 ∧ Hid (Nat.gcd p q = Nat.gcd C D ∧ p ≠ 0) ∧ Hid (∃ m, wi = w4.drewN m)) (fun _ y _ => (intOf y).toNat)
          case atStart => exact ⟨C, D, rfl, rfl, by have := HCB.out; unfold B64 at this; omega, by have := HDB.out; unfold B64 at this; omega, Lib.hid ⟨rfl, HC0.out⟩, Lib.hid ⟨0, rfl⟩⟩
          case round =>
            obtain ⟨p, q, rfl, rfl, hp, hq, hG, hW⟩ := hrel
            by_cases hq0 : q = 0
            · subst hq0
              have HP := Lib.hid (show p = Nat.gcd C D by have := hG.out.1; rwa [Nat.gcd_zero_right] at this)
              have HAB := Lib.hid (show AB w (.slice a7 (Dg.db B64 C).length c7) (.slice a8 (Dg.db B64 D).length c8) C D wr by
                obtain ⟨m, hm⟩ := hW.out
                rw [hm]
                exact HAB.out.call (below_drewN (Below.refl _ _) _))
              have CO := Lib.hid (of2_calls p wr (by unfold B64; omega))
              go_wp2_with fail
              refine CO.out.mono ?_
              rintro e w5 ⟨v5, rfl, hn5, hb5⟩
              obtain ⟨a9, c9, rfl⟩ := hn5.slice
              have HAB2 := Lib.hid (show AB w (.slice a9 (Dg.db B64 p).length c9) (.slice none 0 0) p 0 w5 from ⟨hn5.mono HAB.out.bel.size, No.nil _ _, (HAB.out.call hb5).bel⟩)
              have HV9 := Lib.hid (show valOf (.slice a9 (Dg.db B64 p).length c9) w5 = p by rw [HAB2.out.na.nv.valOf, Dg.dv_db (by decide)])
              clear hn5 hb5
              go_wp2_with fail
              go_roundw
              case rel => exact ⟨p, 0, HAB2, Lib.hid (by
                have h1 := hO.out
                have h2 : p ≤ C := by rw [HP.out]; exact Nat.gcd_le_left _ (by have := HC0.out; omega)
                exact ⟨by rw [Nat.gcd_zero_right, HP.out]; exact h1.1, h1.2.1, Nat.le_trans h2 h1.2.2.1, Nat.zero_le _⟩)⟩
              case measure =>
                have h2 : p ≤ C := by rw [HP.out]; exact Nat.gcd_le_left _ (by have := HC0.out; omega)
                have h3 : valOf (Value.slice none 0 0) w5 = 0 := rfl
                have h4 := HV9.out
                have h5 := HVC.out
                have h6 := HVD.out
                have h7 := HD0.out
                omega
            · have hqp : (q : Int) > 0 := by omega
              have hqz : ((q : Int) == 0) = false := by rw [beq_eq_false_iff_ne]; omega
              have hm : (p : Int) % q = ((p % q : Nat) : Int) := by push_cast; rfl
              have hlt : p % q < q := Nat.mod_lt _ (by omega)
              have HG2 := Lib.hid (show Nat.gcd q (p % q) = Nat.gcd C D ∧ q ≠ 0 from ⟨by rw [← hG.out.1, Nat.gcd_comm p q, Nat.gcd_rec q p, Nat.gcd_comm], hq0⟩)
              generalize p % q = r at *
              have hwr : IntKind.u64.wrap (r : Int) = (r : Int) := by rw [IntKind.wrap_u64]; omega
              go_wp2_with fail
              go_quiet (fail)
              go_wp2_with fail
              go_roundw
              case rel => exact ⟨q, r, rfl, by rw [hm], hq, by omega, HG2, Lib.hid (by obtain ⟨m, hm⟩ := hW.out; exact ⟨_, by rw [hm, World.drewN_drewN]⟩)⟩
              case measure => simp only [intOf]; omega
        · have hss : (s1 && s2) = false := by
            rw [← HX1.out.2, ← HX2.out.2, Bool.and_eq_false_iff, decide_eq_false_iff_not, decide_eq_false_iff_not]
            rcases Nat.lt_or_ge C B64 with h | h
            · exact .inr fun h2 => hs ⟨h, h2⟩
            · exact .inl (by omega)
          clear hs
          cases s1
          · clear hss
            have C3 := Lib.hid (bit0_can HAB.out.na.nv (by have := HLC.out; omega))
            go_wp2_with fail
            refine C3.out.mono ?_
            rintro e w5 ⟨rfl, hb5⟩
            have HAB := Lib.hid (HAB.out.call hb5)
            clear hb5 C3
            by_cases hc2 : C % 2 = 1
            · rw [decide_eq_true hc2]
              have C4 := Lib.hid (bit0_can HAB.out.nb.nv (by have := HLC.out; omega))
              go_wp2_with fail
              refine C4.out.mono ?_
              rintro e w6 ⟨rfl, hb6⟩
              have HAB := Lib.hid (HAB.out.call hb6)
              clear hb6 C4
              by_cases hd2 : D % 2 = 1
              · rw [decide_eq_true hd2]
                clear hd2 hc2
                have C5 := Lib.hid (cmp_can HAB.out.na.nv HAB.out.nb.nv (by have := HLC.out; omega) (by have := HLC.out; omega))
                have hcz := Dg.cmpZ_nonneg (m := C) (n := D)
                generalize Dg.cmpZ C D = cz at *
                go_wp2_with fail
                refine C5.out.mono ?_
                rintro e w7 ⟨rfl, hb7⟩
                have HAB := Lib.hid (HAB.out.call hb7)
                clear hb7 C5
                by_cases hle : D ≤ C
                · have hcz1 : cz ≥ 0 := hcz.2 hle
                  clear hcz
                  have C6 := Lib.hid (sub_can HAB.out.na.nv HAB.out.nb.nv (by have := HLC.out; omega) (by have := HLC.out; omega) hle)
                  have HO2 := Lib.hid (show OddAt A0 B0 (Nat.gcd A B) (C - D) D from ⟨by rw [Dg.gcd_less_left hle]; exact hO.out.1, hO.out.2.1, by have := hO.out.2.2.1; omega, hO.out.2.2.2⟩)
                  have HLE := Lib.hid hle
                  clear hle
                  go_wp2_with fail
                  refine C6.out.mono ?_
                  rintro e w8 ⟨v8, rfl, hn8, hb8⟩
                  obtain ⟨a9, c9, rfl⟩ := hn8.slice
                  have HAB2 := Lib.hid (HAB.out.left hb8 hn8)
                  have HV9 := Lib.hid (show valOf (.slice a9 (Dg.db B64 (C - D)).length c9) w8 = C - D by rw [HAB2.out.na.nv.valOf, Dg.dv_db (by decide)])
                  have HV8 := Lib.hid (show valOf (.slice a8 (Dg.db B64 D).length c8) w8 = D by rw [HAB2.out.nb.nv.valOf, Dg.dv_db (by decide)])
                  clear hn8 hb8
                  go_wp2_with fail
                  go_roundw
                  case rel => exact ⟨C - D, D, HAB2, HO2⟩
                  case measure =>
                    have h1 := HV9.out
                    have h2 := HV8.out
                    have h3 := HVC.out
                    have h4 := HVD.out
                    have h5 := HD0.out
                    have h6 := HC0.out
                    omega
                · have hcz1 : ¬ (cz ≥ 0) := fun h => hle (hcz.1 h)
                  clear hcz
                  have hle2 : C ≤ D := by omega
                  have C6 := Lib.hid (sub_can HAB.out.nb.nv HAB.out.na.nv (by have := HLC.out; omega) (by have := HLC.out; omega) hle2)
                  have HO2 := Lib.hid (show OddAt A0 B0 (Nat.gcd A B) C (D - C) from ⟨by rw [Dg.gcd_less_right hle2]; exact hO.out.1, hO.out.2.1, hO.out.2.2.1, by have := hO.out.2.2.2; omega⟩)
                  clear hle hle2
                  go_wp2_with fail
                  refine C6.out.mono ?_
                  rintro e w8 ⟨v8, rfl, hn8, hb8⟩
                  obtain ⟨a9, c9, rfl⟩ := hn8.slice
                  have HAB2 := Lib.hid (HAB.out.right hb8 hn8)
                  have HV9 := Lib.hid (show valOf (.slice a9 (Dg.db B64 (D - C)).length c9) w8 = D - C by rw [HAB2.out.nb.nv.valOf, Dg.dv_db (by decide)])
                  have HV8 := Lib.hid (show valOf (.slice a7 (Dg.db B64 C).length c7) w8 = C by rw [HAB2.out.na.nv.valOf, Dg.dv_db (by decide)])
                  clear hn8 hb8
                  go_wp2_with fail
                  go_roundw
                  case rel => exact ⟨C, D - C, HAB2, HO2⟩
                  case measure =>
                    have h1 := HV9.out
                    have h2 := HV8.out
                    have h3 := HVC.out
                    have h4 := HVD.out
                    have h5 := HD0.out
                    have h6 := HC0.out
                    omega
              · rw [decide_eq_false hd2]
                have hd0 : D % 2 = 0 := by omega
                have HO2 := Lib.hid (show OddAt A0 B0 (Nat.gcd A B) C (D / 2) from ⟨by rw [Dg.gcd_half_right hd0 (by rw [hO.out.1]; exact hO.out.2.1)]; exact hO.out.1, hO.out.2.1, hO.out.2.2.1, by have := hO.out.2.2.2; omega⟩)
                have C6 := Lib.hid (half_can HAB.out.nb.nv (by have := HLC.out; omega))
                clear hd2 hd0 hc2
                go_wp2_with fail
                refine C6.out.mono ?_
                rintro e w8 ⟨v8, rfl, hn8, hb8⟩
                obtain ⟨a9, c9, rfl⟩ := hn8.slice
                have HAB2 := Lib.hid (HAB.out.right hb8 hn8)
                have HV9 := Lib.hid (show valOf (.slice a9 (Dg.db B64 (D / 2)).length c9) w8 = D / 2 by rw [HAB2.out.nb.nv.valOf, Dg.dv_db (by decide)])
                have HV8 := Lib.hid (show valOf (.slice a7 (Dg.db B64 C).length c7) w8 = C by rw [HAB2.out.na.nv.valOf, Dg.dv_db (by decide)])
                clear hn8 hb8
                go_wp2_with fail
                go_roundw
                case rel => exact ⟨C, D / 2, HAB2, HO2⟩
                case measure =>
                  have h1 := HV9.out
                  have h2 := HV8.out
                  have h3 := HVC.out
                  have h4 := HVD.out
                  have h5 := HD0.out
                  omega
            · rw [decide_eq_false hc2]
              have hc0 : C % 2 = 0 := by omega
              have HO2 := Lib.hid (show OddAt A0 B0 (Nat.gcd A B) (C / 2) D from ⟨by rw [Dg.gcd_half_left hc0 (by rw [hO.out.1]; exact hO.out.2.1)]; exact hO.out.1, hO.out.2.1, by have := hO.out.2.2.1; omega, hO.out.2.2.2⟩)
              have C6 := Lib.hid (half_can HAB.out.na.nv (by have := HLC.out; omega))
              clear hc2 hc0
              go_wp2_with fail
              refine C6.out.mono ?_
              rintro e w8 ⟨v8, rfl, hn8, hb8⟩
              obtain ⟨a9, c9, rfl⟩ := hn8.slice
              have HAB2 := Lib.hid (HAB.out.left hb8 hn8)
              have HV9 := Lib.hid (show valOf (.slice a9 (Dg.db B64 (C / 2)).length c9) w8 = C / 2 by rw [HAB2.out.na.nv.valOf, Dg.dv_db (by decide)])
              have HV8 := Lib.hid (show valOf (.slice a8 (Dg.db B64 D).length c8) w8 = D by rw [HAB2.out.nb.nv.valOf, Dg.dv_db (by decide)])
              clear hn8 hb8
              go_wp2_with fail
              go_roundw
              case rel => exact ⟨C / 2, D, HAB2, HO2⟩
              case measure =>
                have h1 := HV9.out
                have h2 := HV8.out
                have h3 := HVC.out
                have h4 := HVD.out
                have h5 := HC0.out
                omega
          · obtain rfl : s2 = false := by simpa using hss
            clear hss
            have C3 := Lib.hid (bit0_can HAB.out.na.nv (by have := HLC.out; omega))
            go_wp2_with fail
            refine C3.out.mono ?_
            rintro e w5 ⟨rfl, hb5⟩
            have HAB := Lib.hid (HAB.out.call hb5)
            clear hb5 C3
            by_cases hc2 : C % 2 = 1
            · rw [decide_eq_true hc2]
              have C4 := Lib.hid (bit0_can HAB.out.nb.nv (by have := HLC.out; omega))
              go_wp2_with fail
              refine C4.out.mono ?_
              rintro e w6 ⟨rfl, hb6⟩
              have HAB := Lib.hid (HAB.out.call hb6)
              clear hb6 C4
              by_cases hd2 : D % 2 = 1
              · rw [decide_eq_true hd2]
                clear hd2 hc2
                have C5 := Lib.hid (cmp_can HAB.out.na.nv HAB.out.nb.nv (by have := HLC.out; omega) (by have := HLC.out; omega))
                have hcz := Dg.cmpZ_nonneg (m := C) (n := D)
                generalize Dg.cmpZ C D = cz at *
                go_wp2_with fail
                refine C5.out.mono ?_
                rintro e w7 ⟨rfl, hb7⟩
                have HAB := Lib.hid (HAB.out.call hb7)
                clear hb7 C5
                by_cases hle : D ≤ C
                · have hcz1 : cz ≥ 0 := hcz.2 hle
                  clear hcz
                  have C6 := Lib.hid (sub_can HAB.out.na.nv HAB.out.nb.nv (by have := HLC.out; omega) (by have := HLC.out; omega) hle)
                  have HO2 := Lib.hid (show OddAt A0 B0 (Nat.gcd A B) (C - D) D from ⟨by rw [Dg.gcd_less_left hle]; exact hO.out.1, hO.out.2.1, by have := hO.out.2.2.1; omega, hO.out.2.2.2⟩)
                  have HLE := Lib.hid hle
                  clear hle
                  go_wp2_with fail
                  refine C6.out.mono ?_
                  rintro e w8 ⟨v8, rfl, hn8, hb8⟩
                  obtain ⟨a9, c9, rfl⟩ := hn8.slice
                  have HAB2 := Lib.hid (HAB.out.left hb8 hn8)
                  have HV9 := Lib.hid (show valOf (.slice a9 (Dg.db B64 (C - D)).length c9) w8 = C - D by rw [HAB2.out.na.nv.valOf, Dg.dv_db (by decide)])
                  have HV8 := Lib.hid (show valOf (.slice a8 (Dg.db B64 D).length c8) w8 = D by rw [HAB2.out.nb.nv.valOf, Dg.dv_db (by decide)])
                  clear hn8 hb8
                  go_wp2_with fail
                  go_roundw
                  case rel => exact ⟨C - D, D, HAB2, HO2⟩
                  case measure =>
                    have h1 := HV9.out
                    have h2 := HV8.out
                    have h3 := HVC.out
                    have h4 := HVD.out
                    have h5 := HD0.out
                    have h6 := HC0.out
                    omega
                · have hcz1 : ¬ (cz ≥ 0) := fun h => hle (hcz.1 h)
                  clear hcz
                  have hle2 : C ≤ D := by omega
                  have C6 := Lib.hid (sub_can HAB.out.nb.nv HAB.out.na.nv (by have := HLC.out; omega) (by have := HLC.out; omega) hle2)
                  have HO2 := Lib.hid (show OddAt A0 B0 (Nat.gcd A B) C (D - C) from ⟨by rw [Dg.gcd_less_right hle2]; exact hO.out.1, hO.out.2.1, hO.out.2.2.1, by have := hO.out.2.2.2; omega⟩)
                  clear hle hle2
                  go_wp2_with fail
                  refine C6.out.mono ?_
                  rintro e w8 ⟨v8, rfl, hn8, hb8⟩
                  obtain ⟨a9, c9, rfl⟩ := hn8.slice
                  have HAB2 := Lib.hid (HAB.out.right hb8 hn8)
                  have HV9 := Lib.hid (show valOf (.slice a9 (Dg.db B64 (D - C)).length c9) w8 = D - C by rw [HAB2.out.nb.nv.valOf, Dg.dv_db (by decide)])
                  have HV8 := Lib.hid (show valOf (.slice a7 (Dg.db B64 C).length c7) w8 = C by rw [HAB2.out.na.nv.valOf, Dg.dv_db (by decide)])
                  clear hn8 hb8
                  go_wp2_with fail
                  go_roundw
                  case rel => exact ⟨C, D - C, HAB2, HO2⟩
                  case measure =>
                    have h1 := HV9.out
                    have h2 := HV8.out
                    have h3 := HVC.out
                    have h4 := HVD.out
                    have h5 := HD0.out
                    have h6 := HC0.out
                    omega
              · rw [decide_eq_false hd2]
                have hd0 : D % 2 = 0 := by omega
                have HO2 := Lib.hid (show OddAt A0 B0 (Nat.gcd A B) C (D / 2) from ⟨by rw [Dg.gcd_half_right hd0 (by rw [hO.out.1]; exact hO.out.2.1)]; exact hO.out.1, hO.out.2.1, hO.out.2.2.1, by have := hO.out.2.2.2; omega⟩)
                have C6 := Lib.hid (half_can HAB.out.nb.nv (by have := HLC.out; omega))
                clear hd2 hd0 hc2
                go_wp2_with fail
                refine C6.out.mono ?_
                rintro e w8 ⟨v8, rfl, hn8, hb8⟩
                obtain ⟨a9, c9, rfl⟩ := hn8.slice
                have HAB2 := Lib.hid (HAB.out.right hb8 hn8)
                have HV9 := Lib.hid (show valOf (.slice a9 (Dg.db B64 (D / 2)).length c9) w8 = D / 2 by rw [HAB2.out.nb.nv.valOf, Dg.dv_db (by decide)])
                have HV8 := Lib.hid (show valOf (.slice a7 (Dg.db B64 C).length c7) w8 = C by rw [HAB2.out.na.nv.valOf, Dg.dv_db (by decide)])
                clear hn8 hb8
                go_wp2_with fail
                go_roundw
                case rel => exact ⟨C, D / 2, HAB2, HO2⟩
                case measure =>
                  have h1 := HV9.out
                  have h2 := HV8.out
                  have h3 := HVC.out
                  have h4 := HVD.out
                  have h5 := HD0.out
                  omega
            · rw [decide_eq_false hc2]
              have hc0 : C % 2 = 0 := by omega
              have HO2 := Lib.hid (show OddAt A0 B0 (Nat.gcd A B) (C / 2) D from ⟨by rw [Dg.gcd_half_left hc0 (by rw [hO.out.1]; exact hO.out.2.1)]; exact hO.out.1, hO.out.2.1, by have := hO.out.2.2.1; omega, hO.out.2.2.2⟩)
              have C6 := Lib.hid (half_can HAB.out.na.nv (by have := HLC.out; omega))
              clear hc2 hc0
              go_wp2_with fail
              refine C6.out.mono ?_
              rintro e w8 ⟨v8, rfl, hn8, hb8⟩
              obtain ⟨a9, c9, rfl⟩ := hn8.slice
              have HAB2 := Lib.hid (HAB.out.left hb8 hn8)
              have HV9 := Lib.hid (show valOf (.slice a9 (Dg.db B64 (C / 2)).length c9) w8 = C / 2 by rw [HAB2.out.na.nv.valOf, Dg.dv_db (by decide)])
              have HV8 := Lib.hid (show valOf (.slice a8 (Dg.db B64 D).length c8) w8 = D by rw [HAB2.out.nb.nv.valOf, Dg.dv_db (by decide)])
              clear hn8 hb8
              go_wp2_with fail
              go_roundw
              case rel => exact ⟨C / 2, D, HAB2, HO2⟩
              case measure =>
                have h1 := HV9.out
                have h2 := HV8.out
                have h3 := HVC.out
                have h4 := HVD.out
                have h5 := HC0.out
                omega
    · rw [decide_eq_false ha]
      have K2 := Lib.hid (bit0_can hAB.out.nb.nv (by have := HLB.out; omega))
      go_wp2_with fail
      refine K2.out.mono ?_
      rintro e w3 ⟨rfl, hb3⟩
      have hAB := Lib.hid (hAB.out.call hb3)
      clear hb3 K2
      by_cases hb : B % 2 = 1
      · rw [decide_eq_true hb]
        have HODD := Lib.hid (show ¬ (A % 2 = 0 ∧ B % 2 = 0) by omega)
        clear ha hb
        have HO := Lib.hid (show OddAt A0 B0 (Nat.gcd A B) A B from ⟨rfl, gcd_odd HODD.out, by have := hT.out.le; omega, by have := hT.out.le; omega⟩)
        go_wp2_with fail
        go_loopw [0, 1] (fun x y wr => ∃ C D : Nat, Hid (AB w x y C D wr) ∧ Hid (OddAt A0 B0 (Nat.gcd A B) C D)) (fun x y wr => valOf x wr + valOf y wr)
        case atStart => exact ⟨A, B, hAB, HO⟩
        case round =>
          clear hAB HO
          obtain ⟨C, D, hAB, hO⟩ := hrel
          obtain ⟨a7, c7, rfl⟩ := hAB.out.na.slice
          obtain ⟨a8, c8, rfl⟩ := hAB.out.nb.slice
          have HLC := Lib.hid (hO.out.lens L3.out)
          have HVC := Lib.hid (show valOf (.slice a7 (Dg.db B64 C).length c7) wr = C by rw [hAB.out.na.nv.valOf, Dg.dv_db (by decide)])
          have HVD := Lib.hid (show valOf (.slice a8 (Dg.db B64 D).length c8) wr = D by rw [hAB.out.nb.nv.valOf, Dg.dv_db (by decide)])
          by_cases hC0 : C = 0
          · have hlC : ¬ (((Dg.db B64 C).length : Int) > 0) := by rw [hC0, Dg.db_zero]; simp
            have H0X := Or.inl (b := D = 0) hC0
            clear hC0
            have HG := Lib.hid (hO.out.done H0X)
            have CA := Lib.hid (add_can hAB.out.na.nv hAB.out.nb.nv (by have := HLC.out; omega) (by have := HLC.out; omega))
            rw [HG.out] at CA
            have HLG := Lib.hid (show (Dg.db B64 (Nat.gcd A B)).length ≤ 524288 by
              have h1 := HLC.out
              have h2 := db_len_mono (show Nat.gcd A B ≤ C + D by rw [HG.out]; exact Nat.le_refl _)
              have h3 := db_add_len (p := 1025) h1.1 h1.2
              omega)
            go_wp2_with fail
            refine CA.out.mono ?_
            rintro e wA ⟨vA, rfl, hnA, hbA⟩
            obtain ⟨aA, cA, rfl⟩ := hnA.slice
            have CS := Lib.hid (shl_can (n := t) hnA.nv HLG.out ht)
            have HBA := Lib.hid (hAB.out.call hbA)
            clear hnA hbA
            go_wp2_with fail
            refine CS.out.mono ?_
            rintro e wB ⟨vB, rfl, hnB, hbB⟩
            obtain ⟨aB, cB, rfl⟩ := hnB.slice
            have HNB := Lib.hid (hnB.mono HBA.out.bel.size)
            have HBB := Lib.hid (HBA.out.call hbB)
            clear hnB hbB
            go_wp2_with fail
            go_ret
            exact ⟨.slice aB (Dg.db B64 (Nat.gcd A B * 2 ^ t)).length cB, rfl, by rw [show Nat.gcd A0 B0 = Nat.gcd A B * 2 ^ t from by rw [hT.out.2.2.1, Nat.mul_comm]]; exact HNB.out, HBB.out.bel⟩
          have hlC : ((Dg.db B64 C).length : Int) > 0 := by have := db_len_pos hC0; omega
          by_cases hD0 : D = 0
          · have hlD : ¬ (((Dg.db B64 D).length : Int) > 0) := by rw [hD0, Dg.db_zero]; simp
            have H0X := Or.inr (a := C = 0) hD0
            clear hD0 hC0
            have HG := Lib.hid (hO.out.done H0X)
            have CA := Lib.hid (add_can hAB.out.na.nv hAB.out.nb.nv (by have := HLC.out; omega) (by have := HLC.out; omega))
            rw [HG.out] at CA
            have HLG := Lib.hid (show (Dg.db B64 (Nat.gcd A B)).length ≤ 524288 by
              have h1 := HLC.out
              have h2 := db_len_mono (show Nat.gcd A B ≤ C + D by rw [HG.out]; exact Nat.le_refl _)
              have h3 := db_add_len (p := 1025) h1.1 h1.2
              omega)
            go_wp2_with fail
            refine CA.out.mono ?_
            rintro e wA ⟨vA, rfl, hnA, hbA⟩
            obtain ⟨aA, cA, rfl⟩ := hnA.slice
            have CS := Lib.hid (shl_can (n := t) hnA.nv HLG.out ht)
            have HBA := Lib.hid (hAB.out.call hbA)
            clear hnA hbA
            go_wp2_with fail
            refine CS.out.mono ?_
            rintro e wB ⟨vB, rfl, hnB, hbB⟩
            obtain ⟨aB, cB, rfl⟩ := hnB.slice
            have HNB := Lib.hid (hnB.mono HBA.out.bel.size)
            have HBB := Lib.hid (HBA.out.call hbB)
            clear hnB hbB
            go_wp2_with fail
            go_ret
            exact ⟨.slice aB (Dg.db B64 (Nat.gcd A B * 2 ^ t)).length cB, rfl, by rw [show Nat.gcd A0 B0 = Nat.gcd A B * 2 ^ t from by rw [hT.out.2.2.1, Nat.mul_comm]]; exact HNB.out, HBB.out.bel⟩
          have hlD : ((Dg.db B64 D).length : Int) > 0 := by have := db_len_pos hD0; omega
          have HC0 := Lib.hid hC0
          have HD0 := Lib.hid hD0
          clear hC0 hD0
          have C1 := small_can hAB.out.na.nv (by have := HLC.out; omega)
          generalize hx1 : (if C < B64 then C else 0) = x1 at C1
          generalize hs1 : decide (C < B64) = s1 at C1
          have HX1 := Lib.hid (And.intro hx1 hs1)
          have C1 := Lib.hid C1
          clear hx1 hs1
          go_wp2_with fail
          refine C1.out.mono ?_
          rintro e w3 ⟨rfl, hb3⟩
          have HAB := Lib.hid (hAB.out.call hb3)
          have C2 := small_can HAB.out.nb.nv (by have := HLC.out; omega)
          generalize hx2 : (if D < B64 then D else 0) = x2 at C2
          generalize hs2 : decide (D < B64) = s2 at C2
          have HX2 := Lib.hid (And.intro hx2 hs2)
          have C2 := Lib.hid C2
          clear hb3 C1 hx2 hs2
          go_wp2_with fail
          refine C2.out.mono ?_
          rintro e w4 ⟨rfl, hb4⟩
          have HAB := Lib.hid (HAB.out.call hb4)
          clear hb4 C2
          by_cases hs : C < B64 ∧ D < B64
          · obtain rfl : s1 = true := by rw [← HX1.out.2]; exact decide_eq_true hs.1
            obtain rfl : s2 = true := by rw [← HX2.out.2]; exact decide_eq_true hs.2
            obtain rfl : C = x1 := by rw [← HX1.out.1, if_pos hs.1]
            obtain rfl : D = x2 := by rw [← HX2.out.1, if_pos hs.2]
            have HCB := Lib.hid hs.1
            have HDB := Lib.hid hs.2
            clear hs
            go_wp2_with fail
            go_loopw [6, 8] (fun x y wi => ∃ p q : Nat, x = .int .u64 p ∧ y = .int .u64 q ∧ p ≤ 18446744073709551615 ∧ q ≤ 18446744073709551615 ∧ Hid (Nat.gcd p q = Nat.gcd C D ∧ p ≠ 0) ∧ Hid (∃ m, wi = w4.drewN m)) (fun _ y _ => (intOf y).toNat)
            case atStart => exact ⟨C, D, rfl, rfl, by have := HCB.out; unfold B64 at this; omega, by have := HDB.out; unfold B64 at this; omega, Lib.hid ⟨rfl, HC0.out⟩, Lib.hid ⟨0, rfl⟩⟩
            case round =>
              obtain ⟨p, q, rfl, rfl, hp, hq, hG, hW⟩ := hrel
              by_cases hq0 : q = 0
              · subst hq0
                have HP := Lib.hid (show p = Nat.gcd C D by have := hG.out.1; rwa [Nat.gcd_zero_right] at this)
                have HAB := Lib.hid (show AB w (.slice a7 (Dg.db B64 C).length c7) (.slice a8 (Dg.db B64 D).length c8) C D wr by
                  obtain ⟨m, hm⟩ := hW.out
                  rw [hm]
                  exact HAB.out.call (below_drewN (Below.refl _ _) _))
                have CO := Lib.hid (of2_calls p wr (by unfold B64; omega))
                go_wp2_with fail
                refine CO.out.mono ?_
                rintro e w5 ⟨v5, rfl, hn5, hb5⟩
                obtain ⟨a9, c9, rfl⟩ := hn5.slice
                have HAB2 := Lib.hid (show AB w (.slice a9 (Dg.db B64 p).length c9) (.slice none 0 0) p 0 w5 from ⟨hn5.mono HAB.out.bel.size, No.nil _ _, (HAB.out.call hb5).bel⟩)
                have HV9 := Lib.hid (show valOf (.slice a9 (Dg.db B64 p).length c9) w5 = p by rw [HAB2.out.na.nv.valOf, Dg.dv_db (by decide)])
                clear hn5 hb5
                go_wp2_with fail
                go_roundw
                case rel => exact ⟨p, 0, HAB2, Lib.hid (by
                  have h1 := hO.out
                  have h2 : p ≤ C := by rw [HP.out]; exact Nat.gcd_le_left _ (by have := HC0.out; omega)
                  exact ⟨by rw [Nat.gcd_zero_right, HP.out]; exact h1.1, h1.2.1, Nat.le_trans h2 h1.2.2.1, Nat.zero_le _⟩)⟩
                case measure =>
                  have h2 : p ≤ C := by rw [HP.out]; exact Nat.gcd_le_left _ (by have := HC0.out; omega)
                  have h3 : valOf (Value.slice none 0 0) w5 = 0 := rfl
                  have h4 := HV9.out
                  have h5 := HVC.out
                  have h6 := HVD.out
                  have h7 := HD0.out
                  omega
              · have hqp : (q : Int) > 0 := by omega
                have hqz : ((q : Int) == 0) = false := by rw [beq_eq_false_iff_ne]; omega
                have hm : (p : Int) % q = ((p % q : Nat) : Int) := by push_cast; rfl
                have hlt : p % q < q := Nat.mod_lt _ (by omega)
                have HG2 := Lib.hid (show Nat.gcd q (p % q) = Nat.gcd C D ∧ q ≠ 0 from ⟨by rw [← hG.out.1, Nat.gcd_comm p q, Nat.gcd_rec q p, Nat.gcd_comm], hq0⟩)
                generalize p % q = r at *
                have hwr : IntKind.u64.wrap (r : Int) = (r : Int) := by rw [IntKind.wrap_u64]; omega
                go_wp2_with fail
                go_quiet (fail)
                go_wp2_with fail
                go_roundw
                case rel => exact ⟨q, r, rfl, by rw [hm], hq, by omega, HG2, Lib.hid (by obtain ⟨m, hm⟩ := hW.out; exact ⟨_, by rw [hm, World.drewN_drewN]⟩)⟩
                case measure => simp only [intOf]; omega
          · have hss : (s1 && s2) = false := by
              rw [← HX1.out.2, ← HX2.out.2, Bool.and_eq_false_iff, decide_eq_false_iff_not, decide_eq_false_iff_not]
              rcases Nat.lt_or_ge C B64 with h | h
              · exact .inr fun h2 => hs ⟨h, h2⟩
              · exact .inl (by omega)
            clear hs
            cases s1
            · clear hss
              have C3 := Lib.hid (bit0_can HAB.out.na.nv (by have := HLC.out; omega))
              go_wp2_with fail
              refine C3.out.mono ?_
              rintro e w5 ⟨rfl, hb5⟩
              have HAB := Lib.hid (HAB.out.call hb5)
              clear hb5 C3
              by_cases hc2 : C % 2 = 1
              · rw [decide_eq_true hc2]
                have C4 := Lib.hid (bit0_can HAB.out.nb.nv (by have := HLC.out; omega))
                go_wp2_with fail
                refine C4.out.mono ?_
                rintro e w6 ⟨rfl, hb6⟩
                have HAB := Lib.hid (HAB.out.call hb6)
                clear hb6 C4
                by_cases hd2 : D % 2 = 1
                · rw [decide_eq_true hd2]
                  clear hd2 hc2
                  have C5 := Lib.hid (cmp_can HAB.out.na.nv HAB.out.nb.nv (by have := HLC.out; omega) (by have := HLC.out; omega))
                  have hcz := Dg.cmpZ_nonneg (m := C) (n := D)
                  generalize Dg.cmpZ C D = cz at *
                  go_wp2_with fail
                  refine C5.out.mono ?_
                  rintro e w7 ⟨rfl, hb7⟩
                  have HAB := Lib.hid (HAB.out.call hb7)
                  clear hb7 C5
                  by_cases hle : D ≤ C
                  · have hcz1 : cz ≥ 0 := hcz.2 hle
                    clear hcz
                    have C6 := Lib.hid (sub_can HAB.out.na.nv HAB.out.nb.nv (by have := HLC.out; omega) (by have := HLC.out; omega) hle)
                    have HO2 := Lib.hid (show OddAt A0 B0 (Nat.gcd A B) (C - D) D from ⟨by rw [Dg.gcd_less_left hle]; exact hO.out.1, hO.out.2.1, by have := hO.out.2.2.1; omega, hO.out.2.2.2⟩)
                    have HLE := Lib.hid hle
                    clear hle
                    go_wp2_with fail
                    refine C6.out.mono ?_
                    rintro e w8 ⟨v8, rfl, hn8, hb8⟩
                    obtain ⟨a9, c9, rfl⟩ := hn8.slice
                    have HAB2 := Lib.hid (HAB.out.left hb8 hn8)
                    have HV9 := Lib.hid (show valOf (.slice a9 (Dg.db B64 (C - D)).length c9) w8 = C - D by rw [HAB2.out.na.nv.valOf, Dg.dv_db (by decide)])
                    have HV8 := Lib.hid (show valOf (.slice a8 (Dg.db B64 D).length c8) w8 = D by rw [HAB2.out.nb.nv.valOf, Dg.dv_db (by decide)])
                    clear hn8 hb8
                    go_wp2_with fail
                    go_roundw
                    case rel => exact ⟨C - D, D, HAB2, HO2⟩
                    case measure =>
                      have h1 := HV9.out
                      have h2 := HV8.out
                      have h3 := HVC.out
                      have h4 := HVD.out
                      have h5 := HD0.out
                      have h6 := HC0.out
                      omega
                  · have hcz1 : ¬ (cz ≥ 0) := fun h => hle (hcz.1 h)
                    clear hcz
                    have hle2 : C ≤ D := by omega
                    have C6 := Lib.hid (sub_can HAB.out.nb.nv HAB.out.na.nv (by have := HLC.out; omega) (by have := HLC.out; omega) hle2)
                    have HO2 := Lib.hid (show OddAt A0 B0 (Nat.gcd A B) C (D - C) from ⟨by rw [Dg.gcd_less_right hle2]; exact hO.out.1, hO.out.2.1, hO.out.2.2.1, by have := hO.out.2.2.2; omega⟩)
                    clear hle hle2
                    go_wp2_with fail
                    refine C6.out.mono ?_
                    rintro e w8 ⟨v8, rfl, hn8, hb8⟩
                    obtain ⟨a9, c9, rfl⟩ := hn8.slice
                    have HAB2 := Lib.hid (HAB.out.right hb8 hn8)
                    have HV9 := Lib.hid (show valOf (.slice a9 (Dg.db B64 (D - C)).length c9) w8 = D - C by rw [HAB2.out.nb.nv.valOf, Dg.dv_db (by decide)])
                    have HV8 := Lib.hid (show valOf (.slice a7 (Dg.db B64 C).length c7) w8 = C by rw [HAB2.out.na.nv.valOf, Dg.dv_db (by decide)])
                    clear hn8 hb8
                    go_wp2_with fail
                    go_roundw
                    case rel => exact ⟨C, D - C, HAB2, HO2⟩
                    case measure =>
                      have h1 := HV9.out
                      have h2 := HV8.out
                      have h3 := HVC.out
                      have h4 := HVD.out
                      have h5 := HD0.out
                      have h6 := HC0.out
                      omega
                · rw [decide_eq_false hd2]
                  have hd0 : D % 2 = 0 := by omega
                  have HO2 := Lib.hid (show OddAt A0 B0 (Nat.gcd A B) C (D / 2) from ⟨by rw [Dg.gcd_half_right hd0 (by rw [hO.out.1]; exact hO.out.2.1)]; exact hO.out.1, hO.out.2.1, hO.out.2.2.1, by have := hO.out.2.2.2; omega⟩)
                  have C6 := Lib.hid (half_can HAB.out.nb.nv (by have := HLC.out; omega))
                  clear hd2 hd0 hc2
                  go_wp2_with fail
                  refine C6.out.mono ?_
                  rintro e w8 ⟨v8, rfl, hn8, hb8⟩
                  obtain ⟨a9, c9, rfl⟩ := hn8.slice
                  have HAB2 := Lib.hid (HAB.out.right hb8 hn8)
                  have HV9 := Lib.hid (show valOf (.slice a9 (Dg.db B64 (D / 2)).length c9) w8 = D / 2 by rw [HAB2.out.nb.nv.valOf, Dg.dv_db (by decide)])
                  have HV8 := Lib.hid (show valOf (.slice a7 (Dg.db B64 C).length c7) w8 = C by rw [HAB2.out.na.nv.valOf, Dg.dv_db (by decide)])
                  clear hn8 hb8
                  go_wp2_with fail
                  go_roundw
                  case rel => exact ⟨C, D / 2, HAB2, HO2⟩
                  case measure =>
                    have h1 := HV9.out
                    have h2 := HV8.out
                    have h3 := HVC.out
                    have h4 := HVD.out
                    have h5 := HD0.out
                    omega
              · rw [decide_eq_false hc2]
                have hc0 : C % 2 = 0 := by omega
                have HO2 := Lib.hid (show OddAt A0 B0 (Nat.gcd A B) (C / 2) D from ⟨by rw [Dg.gcd_half_left hc0 (by rw [hO.out.1]; exact hO.out.2.1)]; exact hO.out.1, hO.out.2.1, by have := hO.out.2.2.1; omega, hO.out.2.2.2⟩)
                have C6 := Lib.hid (half_can HAB.out.na.nv (by have := HLC.out; omega))
                clear hc2 hc0
                go_wp2_with fail
                refine C6.out.mono ?_
                rintro e w8 ⟨v8, rfl, hn8, hb8⟩
                obtain ⟨a9, c9, rfl⟩ := hn8.slice
                have HAB2 := Lib.hid (HAB.out.left hb8 hn8)
                have HV9 := Lib.hid (show valOf (.slice a9 (Dg.db B64 (C / 2)).length c9) w8 = C / 2 by rw [HAB2.out.na.nv.valOf, Dg.dv_db (by decide)])
                have HV8 := Lib.hid (show valOf (.slice a8 (Dg.db B64 D).length c8) w8 = D by rw [HAB2.out.nb.nv.valOf, Dg.dv_db (by decide)])
                clear hn8 hb8
                go_wp2_with fail
                go_roundw
                case rel => exact ⟨C / 2, D, HAB2, HO2⟩
                case measure =>
                  have h1 := HV9.out
                  have h2 := HV8.out
                  have h3 := HVC.out
                  have h4 := HVD.out
                  have h5 := HC0.out
                  omega
            · obtain rfl : s2 = false := by simpa using hss
              clear hss
              have C3 := Lib.hid (bit0_can HAB.out.na.nv (by have := HLC.out; omega))
              go_wp2_with fail
              refine C3.out.mono ?_
              rintro e w5 ⟨rfl, hb5⟩
              have HAB := Lib.hid (HAB.out.call hb5)
              clear hb5 C3
              by_cases hc2 : C % 2 = 1
              · rw [decide_eq_true hc2]
                have C4 := Lib.hid (bit0_can HAB.out.nb.nv (by have := HLC.out; omega))
                go_wp2_with fail
                refine C4.out.mono ?_
                rintro e w6 ⟨rfl, hb6⟩
                have HAB := Lib.hid (HAB.out.call hb6)
                clear hb6 C4
                by_cases hd2 : D % 2 = 1
                · rw [decide_eq_true hd2]
                  clear hd2 hc2
                  have C5 := Lib.hid (cmp_can HAB.out.na.nv HAB.out.nb.nv (by have := HLC.out; omega) (by have := HLC.out; omega))
                  have hcz := Dg.cmpZ_nonneg (m := C) (n := D)
                  generalize Dg.cmpZ C D = cz at *
                  go_wp2_with fail
                  refine C5.out.mono ?_
                  rintro e w7 ⟨rfl, hb7⟩
                  have HAB := Lib.hid (HAB.out.call hb7)
                  clear hb7 C5
                  by_cases hle : D ≤ C
                  · have hcz1 : cz ≥ 0 := hcz.2 hle
                    clear hcz
                    have C6 := Lib.hid (sub_can HAB.out.na.nv HAB.out.nb.nv (by have := HLC.out; omega) (by have := HLC.out; omega) hle)
                    have HO2 := Lib.hid (show OddAt A0 B0 (Nat.gcd A B) (C - D) D from ⟨by rw [Dg.gcd_less_left hle]; exact hO.out.1, hO.out.2.1, by have := hO.out.2.2.1; omega, hO.out.2.2.2⟩)
                    have HLE := Lib.hid hle
                    clear hle
                    go_wp2_with fail
                    refine C6.out.mono ?_
                    rintro e w8 ⟨v8, rfl, hn8, hb8⟩
                    obtain ⟨a9, c9, rfl⟩ := hn8.slice
                    have HAB2 := Lib.hid (HAB.out.left hb8 hn8)
                    have HV9 := Lib.hid (show valOf (.slice a9 (Dg.db B64 (C - D)).length c9) w8 = C - D by rw [HAB2.out.na.nv.valOf, Dg.dv_db (by decide)])
                    have HV8 := Lib.hid (show valOf (.slice a8 (Dg.db B64 D).length c8) w8 = D by rw [HAB2.out.nb.nv.valOf, Dg.dv_db (by decide)])
                    clear hn8 hb8
                    go_wp2_with fail
                    go_roundw
                    case rel => exact ⟨C - D, D, HAB2, HO2⟩
                    case measure =>
                      have h1 := HV9.out
                      have h2 := HV8.out
                      have h3 := HVC.out
                      have h4 := HVD.out
                      have h5 := HD0.out
                      have h6 := HC0.out
                      omega
                  · have hcz1 : ¬ (cz ≥ 0) := fun h => hle (hcz.1 h)
                    clear hcz
                    have hle2 : C ≤ D := by omega
                    have C6 := Lib.hid (sub_can HAB.out.nb.nv HAB.out.na.nv (by have := HLC.out; omega) (by have := HLC.out; omega) hle2)
                    have HO2 := Lib.hid (show OddAt A0 B0 (Nat.gcd A B) C (D - C) from ⟨by rw [Dg.gcd_less_right hle2]; exact hO.out.1, hO.out.2.1, hO.out.2.2.1, by have := hO.out.2.2.2; omega⟩)
                    clear hle hle2
                    go_wp2_with fail
                    refine C6.out.mono ?_
                    rintro e w8 ⟨v8, rfl, hn8, hb8⟩
                    obtain ⟨a9, c9, rfl⟩ := hn8.slice
                    have HAB2 := Lib.hid (HAB.out.right hb8 hn8)
                    have HV9 := Lib.hid (show valOf (.slice a9 (Dg.db B64 (D - C)).length c9) w8 = D - C by rw [HAB2.out.nb.nv.valOf, Dg.dv_db (by decide)])
                    have HV8 := Lib.hid (show valOf (.slice a7 (Dg.db B64 C).length c7) w8 = C by rw [HAB2.out.na.nv.valOf, Dg.dv_db (by decide)])
                    clear hn8 hb8
                    go_wp2_with fail
                    go_roundw
                    case rel => exact ⟨C, D - C, HAB2, HO2⟩
                    case measure =>
                      have h1 := HV9.out
                      have h2 := HV8.out
                      have h3 := HVC.out
                      have h4 := HVD.out
                      have h5 := HD0.out
                      have h6 := HC0.out
                      omega
                · rw [decide_eq_false hd2]
                  have hd0 : D % 2 = 0 := by omega
                  have HO2 := Lib.hid (show OddAt A0 B0 (Nat.gcd A B) C (D / 2) from ⟨by rw [Dg.gcd_half_right hd0 (by rw [hO.out.1]; exact hO.out.2.1)]; exact hO.out.1, hO.out.2.1, hO.out.2.2.1, by have := hO.out.2.2.2; omega⟩)
                  have C6 := Lib.hid (half_can HAB.out.nb.nv (by have := HLC.out; omega))
                  clear hd2 hd0 hc2
                  go_wp2_with fail
                  refine C6.out.mono ?_
                  rintro e w8 ⟨v8, rfl, hn8, hb8⟩
                  obtain ⟨a9, c9, rfl⟩ := hn8.slice
                  have HAB2 := Lib.hid (HAB.out.right hb8 hn8)
                  have HV9 := Lib.hid (show valOf (.slice a9 (Dg.db B64 (D / 2)).length c9) w8 = D / 2 by rw [HAB2.out.nb.nv.valOf, Dg.dv_db (by decide)])
                  have HV8 := Lib.hid (show valOf (.slice a7 (Dg.db B64 C).length c7) w8 = C by rw [HAB2.out.na.nv.valOf, Dg.dv_db (by decide)])
                  clear hn8 hb8
                  go_wp2_with fail
                  go_roundw
                  case rel => exact ⟨C, D / 2, HAB2, HO2⟩
                  case measure =>
                    have h1 := HV9.out
                    have h2 := HV8.out
                    have h3 := HVC.out
                    have h4 := HVD.out
                    have h5 := HD0.out
                    omega
              · rw [decide_eq_false hc2]
                have hc0 : C % 2 = 0 := by omega
                have HO2 := Lib.hid (show OddAt A0 B0 (Nat.gcd A B) (C / 2) D from ⟨by rw [Dg.gcd_half_left hc0 (by rw [hO.out.1]; exact hO.out.2.1)]; exact hO.out.1, hO.out.2.1, by have := hO.out.2.2.1; omega, hO.out.2.2.2⟩)
                have C6 := Lib.hid (half_can HAB.out.na.nv (by have := HLC.out; omega))
                clear hc2 hc0
                go_wp2_with fail
                refine C6.out.mono ?_
                rintro e w8 ⟨v8, rfl, hn8, hb8⟩
                obtain ⟨a9, c9, rfl⟩ := hn8.slice
                have HAB2 := Lib.hid (HAB.out.left hb8 hn8)
                have HV9 := Lib.hid (show valOf (.slice a9 (Dg.db B64 (C / 2)).length c9) w8 = C / 2 by rw [HAB2.out.na.nv.valOf, Dg.dv_db (by decide)])
                have HV8 := Lib.hid (show valOf (.slice a8 (Dg.db B64 D).length c8) w8 = D by rw [HAB2.out.nb.nv.valOf, Dg.dv_db (by decide)])
                clear hn8 hb8
                go_wp2_with fail
                go_roundw
                case rel => exact ⟨C / 2, D, HAB2, HO2⟩
                case measure =>
                  have h1 := HV9.out
                  have h2 := HV8.out
                  have h3 := HVC.out
                  have h4 := HVD.out
                  have h5 := HC0.out
                  omega
      · rw [decide_eq_false hb]
        have HT2 := Lib.hid (hT.out.step (by omega) (by omega))
        have HTL := Lib.hid (HT2.out.t L1.out)
        have HA0 := Lib.hid hT.out.1
        clear ha hb
        have K3 := Lib.hid (half_can hAB.out.na.nv (by have := HLA.out; omega))
        go_wp2_with fail
        refine K3.out.mono ?_
        rintro e w4 ⟨v4, rfl, hn4, hb4⟩
        obtain ⟨a7, c7, rfl⟩ := hn4.slice
        have hAB := Lib.hid (hAB.out.left hb4 hn4)
        clear hn4 hb4 K3
        have K4 := Lib.hid (half_can hAB.out.nb.nv (by have := HLB.out; omega))
        go_wp2_with fail
        refine K4.out.mono ?_
        rintro e w5 ⟨v5, rfl, hn5, hb5⟩
        obtain ⟨a8, c8, rfl⟩ := hn5.slice
        have hAB := Lib.hid (hAB.out.right hb5 hn5)
        have HV1 := Lib.hid (show valOf (.slice a7 (Dg.db B64 (A / 2)).length c7) w5 = A / 2 by rw [hAB.out.na.nv.valOf, Dg.dv_db (by decide)])
        clear hn5 hb5 K4
        go_wp2_with fail
        go_roundw
        case rel => exact ⟨A / 2, B / 2, t + 1, HTL.out, by go_num, hAB, HT2⟩
        case measure =>
          have h1 := HV0.out
          have h2 := HV1.out
          have h3 := HA0.out
          omega

end Go.Proofs.YthlpfhenaakljaaGreatDoor

namespace Go.Proofs.YthlpfhenaakljaaGreatDoor
open Go.RowKit

/-- Place by place: the row holds the quotient of the places from i on. -/
def DvAt (A B i N : Nat) (ds : List Nat) : Prop := ds.length = N ∧ Dg.Ds 65536 ds ∧ Dg.dv 65536 ds = (A / 2 ^ i / B) * 2 ^ i
theorem DvAt.start (A B N : Nat) : DvAt A B (Dg.bl A) N (List.replicate N 0) :=
  ⟨by simp, fun x hx => by rw [List.eq_of_mem_replicate hx]; decide, by rw [Dg.dv_replicate_zero, Nat.div_eq_of_lt (Dg.lt_two_bl A), Nat.zero_div, Nat.zero_mul]⟩
theorem start_rem (A B : Nat) : A / 2 ^ Dg.bl A % B = 0 := by rw [Nat.div_eq_of_lt (Dg.lt_two_bl A), Nat.zero_mod]
theorem DvAt.zero {A B j N : Nat} {ds : List Nat} (h : DvAt A B (j + 1) N ds) (hB : 0 < B) (hlt : 2 * (A / 2 ^ (j + 1) % B) + A / 2 ^ j % 2 < B) : DvAt A B j N ds := by
  refine ⟨h.1, h.2.1, ?_⟩
  rw [h.2.2, ((Dg.div_next hB).1 hlt).1, Nat.pow_succ]
  grind
theorem DvAt.one {A B j N : Nat} {ds : List Nat} (h : DvAt A B (j + 1) N ds) (hB : 0 < B) (hge : B ≤ 2 * (A / 2 ^ (j + 1) % B) + A / 2 ^ j % 2) (hN : j / 16 < N) :
    ds.getD (j / 16) 0 + 2 ^ (j % 16) < 65536 ∧ DvAt A B j N (ds.set (j / 16) (ds.getD (j / 16) 0 + 2 ^ (j % 16))) := by
  obtain ⟨e1, e2, e3⟩ := h
  have h0 : Dg.dv 65536 ds / 2 ^ j % 2 = 0 := by
    rw [e3, Nat.pow_succ, Nat.mul_comm (2 ^ j) 2, ← Nat.mul_assoc, Nat.mul_div_cancel _ (Nat.two_pow_pos j), Nat.mul_mod_left]
  obtain ⟨f1, f2, f3⟩ := Dg.bit_set (k := j) e2 (by omega) h0
  refine ⟨f1, by simp [e1], f2, ?_⟩
  rw [f3, e3, ((Dg.div_next hB).2 hge).1, Nat.pow_succ]
  grind

/-- A quotient of the call's own is told, and something beside. -/
def RetQ2 (R : List Nat) (w : World) (e : Ending) (w' : World) : Prop := ∃ v a n c, e = .returned (.tuple #[v, .slice a n c]) ∧ No w.heap.size w' v R ∧ Below w.heap.size w w'

set_option maxRecDepth 100000 in
set_option maxHeartbeats 12800000 in
theorem div6_calls (v1 v2 : Value) (xs ys : List Nat) (w : World) (h1 : Nv w v1 xs) (h2 : Nv w v2 ys) (l1 : xs.length ≤ 1025) (l2 : ys.length ≤ 1025) (hy : ys = Dg.db B64 (Dg.dv B64 ys)) (h0 : Dg.dv B64 ys ≠ 0) :
    Calls Tryz.prog 67 #[v1, v2] w (RetQ2 (Dg.db B64 (Dg.dv B64 xs / Dg.dv B64 ys)) w) := by
  obtain ⟨i0, hi, hz0, hz1, hz2⟩ := info_parts info_u64
  have S1 := small2_calls v1 xs w h1 (by omega)
  have S2 := fun wx (hb : Below w.heap.size w wx) => small2_calls v2 ys wx (h2.below hb) (by omega)
  have D1 := Lib.hid (fun wx (hb : Below w.heap.size w wx) => digits_calls v1 xs wx (h1.below hb) (by omega))
  have CL := Lib.hid (fun wx (hb : Below w.heap.size w wx) => len2_calls v1 xs wx (h1.below hb) (by omega))
  have CB := Lib.hid (fun wx (hb : Below w.heap.size w wx) i hi => bit2_calls v1 xs i _ rfl wx (h1.below hb) (by omega) hi)
  have L1 := Lib.hid (dig_len h1.1)
  have HLB := Lib.hid (Nat.le_trans (Dg.db_length (b := B64) (by decide) (Dg.dv_lt ys h2.1)) l2)
  have HB0 := Lib.hid (show 0 < Dg.dv B64 ys by omega)
  have h2n := Lib.hid (fun wx (hb : Below w.heap.size w wx) => show Nv wx v2 (Dg.db B64 (Dg.dv B64 ys)) by rw [← hy]; exact h2.below hb)
  obtain ⟨_, a1, c1, rfl, _, _⟩ := id h1
  obtain ⟨_, a2, c2, rfl, _, _⟩ := id h2
  clear h1 h2 h0 hy
  generalize Dg.dv B64 xs = A at *
  generalize Dg.dv B64 ys = B at *
  have hbl := bl_le16 A
  have hlx : (Dg.db 65536 A).length ≤ 4100 := by have := L1.out; omega
  generalize hx1 : (if A < B64 then A else 0) = x1 at S1
  generalize hs1 : decide (A < B64) = s1 at S1
  generalize hx2 : (if B < B64 then B else 0) = x2 at S2
  generalize hs2 : decide (B < B64) = s2 at S2
  have HX1 := Lib.hid (And.intro hx1 hs1)
  have HX2 := Lib.hid (And.intro hx2 hs2)
  have S1 := Lib.hid S1
  have S2 := Lib.hid S2
  clear hx1 hs1 hx2 hs2
  go_enter Tryz.func67, Tryz.ntmps67
  go_wp2_with fail
  refine S1.out.mono ?_
  rintro e w1 ⟨rfl, hb1⟩
  have HW1 := Lib.hid hb1
  have S2 := Lib.hid (S2.out _ hb1)
  clear hb1
  go_wp2_with fail
  refine S2.out.mono ?_
  rintro e w2 ⟨rfl, hb2⟩
  have HW2 := Lib.hid (HW1.out.trans (hb2.mono HW1.out.size))
  clear hb2
  by_cases hs : A < B64 ∧ B < B64
  · obtain rfl : s1 = true := by rw [← HX1.out.2]; exact decide_eq_true hs.1
    obtain rfl : s2 = true := by rw [← HX2.out.2]; exact decide_eq_true hs.2
    obtain rfl : A = x1 := by rw [← HX1.out.1, if_pos hs.1]
    obtain rfl : B = x2 := by rw [← HX2.out.1, if_pos hs.2]
    have hA := hs.1
    have hB := hs.2
    have hq : A / B < B64 := Nat.lt_of_le_of_lt (Nat.div_le_self _ _) hA
    have hr : A % B < B64 := Nat.lt_trans (Nat.mod_lt _ HB0.out) hB
    have hqz : ((B : Int) == 0) = false := by rw [beq_eq_false_iff_ne]; have := HB0.out; omega
    have hBp : (B : Int) > 0 := by have := HB0.out; omega
    have hBn : ¬ ((B : Int) = 0) := by omega
    have hBn2 : B ≠ 0 := by omega
    have hdi : (A : Int) / B = ((A / B : Nat) : Int) := by push_cast; rfl
    have hmi : (A : Int) % B = ((A % B : Nat) : Int) := by push_cast; rfl
    have hmt : (A : Int).tmod B = ((A % B : Nat) : Int) := by rw [Int.tmod_eq_emod_of_nonneg (by omega)]; exact hmi
    have htd : (A : Int).tdiv B = ((A / B : Nat) : Int) := by rw [Int.tdiv_eq_ediv_of_nonneg (by omega)]; exact hdi
    have O1 := Lib.hid (fun wx => of2_calls (A / B) wx hq)
    have O2 := Lib.hid (fun wx => of2_calls (A % B) wx hr)
    unfold B64 at hq hr
    generalize A / B = qq at *
    generalize A % B = rr at *
    have hw1 : IntKind.u64.wrap (qq : Int) = (qq : Int) := by rw [IntKind.wrap_u64]; omega
    have hw2 : IntKind.u64.wrap (rr : Int) = (rr : Int) := by rw [IntKind.wrap_u64]; omega
    clear hs hA hB
    go_wp2_with fail
    go_region_held3 (fun _ => True) (trivial)
      (first
        | (go_at_call_of 107 (Value.int .u64 (qq : Int))
           refine Calls.mono (O1.out _) ?_
           rintro e w3 ⟨v3, rfl, hn3, hb3⟩
           obtain ⟨a3, c3, rfl⟩ := hn3.slice
           have HN := Lib.hid (hn3.mono HW2.out.size)
           have HW3 := Lib.hid (HW2.out.drew.trans (hb3.mono HW2.out.size))
           clear hn3 hb3)
        | (go_at_call_of 107 (Value.int .u64 (rr : Int))
           refine Calls.mono (O2.out _) ?_
           rintro e w4 ⟨v4, rfl, hn4, hb4⟩
           obtain ⟨a4, c4, rfl⟩ := hn4.slice
           have HN := Lib.hid (HN.out.below hb4)
           have HW4 := Lib.hid (HW3.out.trans (hb4.mono HW3.out.size))
           clear hn4 hb4))
    go_wp2_with fail
    go_ret2
    exact ⟨_, _, _, _, rfl, HN.out, HW4.out⟩
  · have hss : (s1 && s2) = false := by
      rw [← HX1.out.2, ← HX2.out.2, Bool.and_eq_false_iff, decide_eq_false_iff_not, decide_eq_false_iff_not]
      rcases Nat.lt_or_ge A B64 with h | h
      · exact .inr fun h2 => hs ⟨h, h2⟩
      · exact .inl (by omega)
    clear hs
    cases s1
    · clear hss
      have D1 := Lib.hid (D1.out _ HW2.out)
      go_wp2_with fail
      refine D1.out.mono ?_
      rintro e w3 ⟨v3, rfl, hn3, hb3⟩
      obtain ⟨_, a4, c4, rfl, _, _⟩ := id hn3
      have HW3 := Lib.hid (HW2.out.trans (hb3.mono HW2.out.size))
      clear hn3 hb3
      generalize (Dg.db 65536 A).length = L at *
      go_wp2_with (at_make; refine wpList_make_full _ rfl _ _ 22 rfl w3.heap.size 43 i0 (.int .u64 0) 1 und_u64s hi hz0 hz1 .i64 .i64 _ _ (L + 1) rfl rfl ?_ ?_ ?_ ?_ ?_ ?_)
      · omega
      · omega
      · rw [hz2]; omega
      · unfold maxLen; omega
      · omega
      intro w4 hown hg
      have HR := Lib.hid (RowAt.made (Below.refl _ _) hown hg)
      have HD := Lib.hid (DvAt.start A B (L + 1))
      have HR0 := Lib.hid (start_rem A B)
      have CL2 := Lib.hid (CL.out w4 (HW3.out.trans (HR.out.2.2.mono HW3.out.size)))
      clear hown hg hi hz0 hz1 hz2
      generalize hgg : w3.heap.size = g at *
      have HGG := Lib.hid hgg
      clear hgg
      have hblb : Dg.bl A ≤ 65600 := by omega
      generalize Dg.bl A = BL at *
      go_wp2_with fail
      refine CL2.out.mono ?_
      rintro e w5 ⟨rfl, hb5⟩
      have HR := Lib.hid (HR.out.below hb5)
      clear hb5 CL2
      go_wp2_with fail
      go_loopw [11, 12] (fun u s wr => ∃ i : Nat, i ≤ BL ∧ s = .int .i64 ((i : Int) - 1) ∧ Hid (∃ ds, DvAt A B i (L + 1) ds ∧ RowAt w3 wr g (L + 1) ds) ∧ Hid (No (g + 1) wr u (Dg.db B64 (A / 2 ^ i % B)))) (fun _ s _ => (intOf s + 1).toNat)
      case atStart => exact ⟨BL, Nat.le_refl _, by go_num, Lib.hid ⟨_, HD.out, HR.out⟩, Lib.hid (by rw [HR0.out]; exact No.nil _ _)⟩
      case round =>
        clear HR HD HR0
        obtain ⟨i, hiB, rfl, hrel, hr⟩ := hrel
        obtain ⟨ds, hD, hR⟩ := hrel.out
        have HD := Lib.hid hD
        have HR := Lib.hid hR
        clear hrel hD hR
        obtain ⟨a5, c5, rfl⟩ := hr.out.slice
        by_cases hi0 : i = 0
        · subst hi0
          have hlt : ¬ (((0 : Nat) : Int) - 1 ≥ 0) := by omega
          have HE := Lib.hid (show Dg.dv 65536 ds = A / B by have := HD.out.2.2; simpa using this)
          have HJ := Lib.hid (join_calls _ _ wr (HR.out.nv (Ws16 HD.out.2.1)) HD.out.2.1 (by rw [HD.out.1]; omega))
          rw [HE.out] at HJ
          go_wp2_with fail
          refine HJ.out.mono ?_
          rintro e w6 ⟨v6, rfl, hn6, hb6⟩
          obtain ⟨a6, c6, rfl⟩ := hn6.slice
          have HWR := Lib.hid (HW3.out.trans (HR.out.2.2.mono HW3.out.size))
          have HN := Lib.hid (hn6.mono HWR.out.size)
          have HB6 := Lib.hid (HWR.out.trans (hb6.mono HWR.out.size))
          clear hn6 hb6
          go_wp2_with fail
          go_ret2
          exact ⟨_, _, _, _, rfl, HN.out, HB6.out⟩
        · obtain ⟨j, rfl⟩ : ∃ j, i = j + 1 := ⟨i - 1, by omega⟩
          have hij : ((j + 1 : Nat) : Int) - 1 = (j : Int) := by omega
          rw [hij]
          have hj0 : (j : Int) ≥ 0 := by omega
          have HRL := Lib.hid (Nat.mod_lt (A / 2 ^ (j + 1)) HB0.out)
          generalize hRR : A / 2 ^ (j + 1) % B = r at *
          have HRR := Lib.hid hRR
          clear hRR
          have HLR0 := Lib.hid (show (Dg.db B64 r).length ≤ 1025 from Nat.le_trans (db_len_mono (Nat.le_of_lt HRL.out)) HLB.out)
          have HLR := Lib.hid (show (Dg.db B64 (r + r)).length ≤ 1026 ∧ (Dg.db B64 (r + r + 1)).length ≤ 1027 from ⟨Nat.le_trans (db_add_len HLR0.out HLR0.out) (Nat.le_refl _), Nat.le_trans (db_add_len (p := 1026) (Nat.le_trans (db_add_len HLR0.out HLR0.out) (Nat.le_refl _)) (by rw [db_one]; decide)) (Nat.le_refl _)⟩)
          have CA := Lib.hid (add_can hr.out.nv hr.out.nv (by have := HLR0.out; omega) (by have := HLR0.out; omega))
          have HGL := Lib.hid (World.ownsRow.lt HR.out.2.1 g (by simp [Value.ownBlock])).2
          go_wp2_with fail
          refine CA.out.mono ?_
          rintro e w6 ⟨v6, rfl, hn6, hb6⟩
          obtain ⟨a6, c6, rfl⟩ := hn6.slice
          have hr6 := Lib.hid (show No (g + 1) w6 (.slice a6 (Dg.db B64 (r + r)).length c6) (Dg.db B64 (r + r)) from hn6.mono (by have := HGL.out; omega))
          have HR6 := Lib.hid (HR.out.below hb6)
          have HWB := Lib.hid (HW3.out.trans (HR6.out.2.2.mono HW3.out.size))
          have CB2 := Lib.hid (CB.out w6 HWB.out j (by omega))
          clear hn6 hb6 CA
          go_wp2_with fail
          refine CB2.out.mono ?_
          rintro e w7 ⟨rfl, hb7⟩
          have HRW := Lib.hid (HR6.out.below hb7)
          have hr7 := Lib.hid (hr6.out.below hb7)
          have HWB := Lib.hid (HWB.out.trans (hb7.mono HWB.out.size))
          clear hb7 CB2
          by_cases hbit : A / 2 ^ j % 2 = 1
          · rw [decide_eq_true hbit]
            have HBIT := Lib.hid hbit
            clear hbit
            have CA := Lib.hid (add2_calls (.slice a6 (Dg.db B64 (r + r)).length c6) (.slice (some ⟨w7.heap.size, 0, none⟩) 1 1) _ [1] (w7.alloc (.cells #[.int .u64 ((1 : Nat) : Int)] 43)) (hr7.out.nv.alloc _) (Nv.lit w7 (by decide)) (by have := HLR.out; omega) (by decide))
            rw [Dg.dv_db (by decide), show Dg.dv B64 [1] = 1 from rfl] at CA
            have HRA := Lib.hid (HRW.out.below ((Below.refl w7.heap.size w7).alloc (Nat.le_refl _) (.cells #[.int .u64 ((1 : Nat) : Int)] 43)))
            have HWA := Lib.hid (HWB.out.alloc HWB.out.size (.cells #[.int .u64 ((1 : Nat) : Int)] 43))
            have HGA := Lib.hid (World.ownsRow.lt HRA.out.2.1 g (by simp [Value.ownBlock])).2
            go_wp2_with fail
            refine CA.out.mono ?_
            rintro e wA ⟨vA, rfl, hnA, hbA⟩
            obtain ⟨aA, cA, rfl⟩ := hnA.slice
            have hr7 := Lib.hid (show No (g + 1) wA (.slice aA (Dg.db B64 (r + r + 1)).length cA) (Dg.db B64 (r + r + 1)) from hnA.mono (by have := HGA.out; omega))
            have HRW := Lib.hid (HRA.out.below hbA)
            have HWB := Lib.hid (HWA.out.trans (hbA.mono HWA.out.size))
            clear hnA hbA CA
            have CC := Lib.hid (cmp_can hr7.out.nv (h2n.out _ HWB.out) (by have := HLR.out; omega) (by have := HLB.out; omega))
            have hcz := Dg.cmpZ_nonneg (m := (r + r + 1)) (n := B)
            generalize Dg.cmpZ (r + r + 1) B = cz at *
            go_wp2_with fail
            refine CC.out.mono ?_
            rintro e w8 ⟨rfl, hb8⟩
            have HR8 := Lib.hid (HRW.out.below hb8)
            have hr8 := Lib.hid (hr7.out.below hb8)
            have HWB := Lib.hid (HWB.out.trans (hb8.mono HWB.out.size))
            clear hb8 CC
            by_cases hge : B ≤ (r + r + 1)
            · have hcz1 : cz ≥ 0 := hcz.2 hge
              clear hcz
              have CS := Lib.hid (sub_can hr8.out.nv (h2n.out _ HWB.out) (by have := HLR.out; omega) (by have := HLB.out; omega) hge)
              obtain ⟨s1, s2⟩ := HD.out.one HB0.out (by rw [HBIT.out, HRR.out]; omega) (show j / 16 < L + 1 by omega)
              have HREM := Lib.hid (show A / 2 ^ j % B = (r + r + 1) - B by have := ((Dg.div_next HB0.out).2 (show B ≤ 2 * (A / 2 ^ (j + 1) % B) + A / 2 ^ j % 2 by rw [HBIT.out, HRR.out]; omega)).2; rw [HBIT.out, HRR.out] at this; omega)
              clear hge
              go_wp2_with fail
              refine CS.out.mono ?_
              rintro e w9 ⟨v9, rfl, hn9, hb9⟩
              obtain ⟨a9, c9, rfl⟩ := hn9.slice
              have HR9 := Lib.hid (HR8.out.below hb9)
              have hr9 := Lib.hid (show No (g + 1) w9 (.slice a9 (Dg.db B64 ((r + r + 1) - B)).length c9) (Dg.db B64 ((r + r + 1) - B)) from hn9.mono (by have := (World.ownsRow.lt HR8.out.2.1 g (by simp [Value.ownBlock])).2; omega))
              clear hn9 hb9 CS
              have HDS := Lib.hid s2
              clear s2
              have hdn : ((j : Nat) : Int) / 16 = ((j / 16 : Nat) : Int) := by omega
              have hmn : ((j : Nat) : Int) % 16 = ((j % 16 : Nat) : Int) := by omega
              have hr16 : j % 16 < 16 := Nat.mod_lt _ (by decide)
              have hjL : j / 16 < L + 1 := by omega
              have hcell := HR9.out.cell (k := j / 16) hjL
              have hfree := HR9.out.free (j / 16)
              have HRS := Lib.hid (fun r => HR9.out.set (j / 16) r)
              generalize j / 16 = qj at *
              generalize j % 16 = rj at *
              generalize ds.getD qj 0 = old at *
              have hq0 : (0 : Int) ≤ (qj : Int) ∧ (qj : Int) < (L : Int) + 1 := by omega
              go_wp2_with fail
              go_loop [13, 14] (fun u s => ∃ k z : Nat, k ≤ rj ∧ s = .int .i64 k ∧ u = .int .u64 z ∧ Hid (z = 2 ^ k)) (fun _ s => rj - (intOf s).toNat)
              case atStart => exact ⟨0, 1, Nat.zero_le _, rfl, rfl, Lib.hid (by simp)⟩
              case round =>
                obtain ⟨k, z, hk, rfl, rfl, hrel⟩ := hrel
                by_cases hkr : k < rj
                · have hzb : z < 65536 := by rw [hrel.out]; exact pow16_lt (by omega)
                  have hwz : IntKind.u64.wrap (2 * (z : Int)) = 2 * (z : Int) := by rw [IntKind.wrap_u64]; omega
                  have hlt3 : (k : Int) < rj := by omega
                  go_wp2_with fail
                  go_round
                  case rel => exact ⟨k + 1, 2 * z, hkr, by go_num, congrArg _ (by omega), Lib.hid (by rw [hrel.out, Nat.pow_succ, Nat.mul_comm])⟩
                  case measure => simp only [intOf]; omega
                · have hkr2 : k = rj := by omega
                  have hlt3 : ¬ ((k : Int) < rj) := by omega
                  have hz : 2 ^ rj = z := by rw [hrel.out, hkr2]
                  rw [hz] at s1 HDS
                  have hwz : IntKind.u64.wrap ((old : Int) + z) = (old : Int) + z := by rw [IntKind.wrap_u64]; omega
                  have HR7 := HRS.out (old + z)
                  rw [show ((old + z : Nat) : Int) = (old : Int) + z from by omega] at HR7
                  have HR7 := Lib.hid HR7
                  clear hz
                  go_wp2_with fail
                  go_roundw
                  case rel => exact ⟨j, by omega, by go_num, Lib.hid ⟨_, HDS.out, HR7.out⟩, Lib.hid (by rw [HREM.out]; exact hr9.out.kept (grownBy_setCell _ _ _ _) (fun h => by have := (hr9.out.lt g h).1; omega))⟩
                  case measure => simp only [intOf]; omega
            · have hcz1 : ¬ (cz ≥ 0) := fun h => hge (hcz.1 h)
              clear hcz
              have HDS := Lib.hid (HD.out.zero HB0.out (by rw [HBIT.out, HRR.out]; omega))
              have HREM := Lib.hid (show A / 2 ^ j % B = (r + r + 1) by have := ((Dg.div_next HB0.out).1 (show 2 * (A / 2 ^ (j + 1) % B) + A / 2 ^ j % 2 < B by rw [HBIT.out, HRR.out]; omega)).2; rw [HBIT.out, HRR.out] at this; omega)
              clear hge
              go_wp2_with fail
              go_roundw
              case rel => exact ⟨j, by omega, by go_num, Lib.hid ⟨_, HDS.out, HR8.out⟩, Lib.hid (by rw [HREM.out]; exact hr8.out)⟩
              case measure => simp only [intOf]; omega
          · rw [decide_eq_false hbit]
            have HBIT := Lib.hid (show A / 2 ^ j % 2 = 0 by omega)
            clear hbit
            have CC := Lib.hid (cmp_can hr7.out.nv (h2n.out _ HWB.out) (by have := HLR.out; omega) (by have := HLB.out; omega))
            have hcz := Dg.cmpZ_nonneg (m := (r + r)) (n := B)
            generalize Dg.cmpZ (r + r) B = cz at *
            go_wp2_with fail
            refine CC.out.mono ?_
            rintro e w8 ⟨rfl, hb8⟩
            have HR8 := Lib.hid (HRW.out.below hb8)
            have hr8 := Lib.hid (hr7.out.below hb8)
            have HWB := Lib.hid (HWB.out.trans (hb8.mono HWB.out.size))
            clear hb8 CC
            by_cases hge : B ≤ (r + r)
            · have hcz1 : cz ≥ 0 := hcz.2 hge
              clear hcz
              have CS := Lib.hid (sub_can hr8.out.nv (h2n.out _ HWB.out) (by have := HLR.out; omega) (by have := HLB.out; omega) hge)
              obtain ⟨s1, s2⟩ := HD.out.one HB0.out (by rw [HBIT.out, HRR.out]; omega) (show j / 16 < L + 1 by omega)
              have HREM := Lib.hid (show A / 2 ^ j % B = (r + r) - B by have := ((Dg.div_next HB0.out).2 (show B ≤ 2 * (A / 2 ^ (j + 1) % B) + A / 2 ^ j % 2 by rw [HBIT.out, HRR.out]; omega)).2; rw [HBIT.out, HRR.out] at this; omega)
              clear hge
              go_wp2_with fail
              refine CS.out.mono ?_
              rintro e w9 ⟨v9, rfl, hn9, hb9⟩
              obtain ⟨a9, c9, rfl⟩ := hn9.slice
              have HR9 := Lib.hid (HR8.out.below hb9)
              have hr9 := Lib.hid (show No (g + 1) w9 (.slice a9 (Dg.db B64 ((r + r) - B)).length c9) (Dg.db B64 ((r + r) - B)) from hn9.mono (by have := (World.ownsRow.lt HR8.out.2.1 g (by simp [Value.ownBlock])).2; omega))
              clear hn9 hb9 CS
              have HDS := Lib.hid s2
              clear s2
              have hdn : ((j : Nat) : Int) / 16 = ((j / 16 : Nat) : Int) := by omega
              have hmn : ((j : Nat) : Int) % 16 = ((j % 16 : Nat) : Int) := by omega
              have hr16 : j % 16 < 16 := Nat.mod_lt _ (by decide)
              have hjL : j / 16 < L + 1 := by omega
              have hcell := HR9.out.cell (k := j / 16) hjL
              have hfree := HR9.out.free (j / 16)
              have HRS := Lib.hid (fun r => HR9.out.set (j / 16) r)
              generalize j / 16 = qj at *
              generalize j % 16 = rj at *
              generalize ds.getD qj 0 = old at *
              have hq0 : (0 : Int) ≤ (qj : Int) ∧ (qj : Int) < (L : Int) + 1 := by omega
              go_wp2_with fail
              go_loop [13, 14] (fun u s => ∃ k z : Nat, k ≤ rj ∧ s = .int .i64 k ∧ u = .int .u64 z ∧ Hid (z = 2 ^ k)) (fun _ s => rj - (intOf s).toNat)
              case atStart => exact ⟨0, 1, Nat.zero_le _, rfl, rfl, Lib.hid (by simp)⟩
              case round =>
                obtain ⟨k, z, hk, rfl, rfl, hrel⟩ := hrel
                by_cases hkr : k < rj
                · have hzb : z < 65536 := by rw [hrel.out]; exact pow16_lt (by omega)
                  have hwz : IntKind.u64.wrap (2 * (z : Int)) = 2 * (z : Int) := by rw [IntKind.wrap_u64]; omega
                  have hlt3 : (k : Int) < rj := by omega
                  go_wp2_with fail
                  go_round
                  case rel => exact ⟨k + 1, 2 * z, hkr, by go_num, congrArg _ (by omega), Lib.hid (by rw [hrel.out, Nat.pow_succ, Nat.mul_comm])⟩
                  case measure => simp only [intOf]; omega
                · have hkr2 : k = rj := by omega
                  have hlt3 : ¬ ((k : Int) < rj) := by omega
                  have hz : 2 ^ rj = z := by rw [hrel.out, hkr2]
                  rw [hz] at s1 HDS
                  have hwz : IntKind.u64.wrap ((old : Int) + z) = (old : Int) + z := by rw [IntKind.wrap_u64]; omega
                  have HR7 := HRS.out (old + z)
                  rw [show ((old + z : Nat) : Int) = (old : Int) + z from by omega] at HR7
                  have HR7 := Lib.hid HR7
                  clear hz
                  go_wp2_with fail
                  go_roundw
                  case rel => exact ⟨j, by omega, by go_num, Lib.hid ⟨_, HDS.out, HR7.out⟩, Lib.hid (by rw [HREM.out]; exact hr9.out.kept (grownBy_setCell _ _ _ _) (fun h => by have := (hr9.out.lt g h).1; omega))⟩
                  case measure => simp only [intOf]; omega
            · have hcz1 : ¬ (cz ≥ 0) := fun h => hge (hcz.1 h)
              clear hcz
              have HDS := Lib.hid (HD.out.zero HB0.out (by rw [HBIT.out, HRR.out]; omega))
              have HREM := Lib.hid (show A / 2 ^ j % B = (r + r) by have := ((Dg.div_next HB0.out).1 (show 2 * (A / 2 ^ (j + 1) % B) + A / 2 ^ j % 2 < B by rw [HBIT.out, HRR.out]; omega)).2; rw [HBIT.out, HRR.out] at this; omega)
              clear hge
              go_wp2_with fail
              go_roundw
              case rel => exact ⟨j, by omega, by go_num, Lib.hid ⟨_, HDS.out, HR8.out⟩, Lib.hid (by rw [HREM.out]; exact hr8.out)⟩
              case measure => simp only [intOf]; omega
    · obtain rfl : s2 = false := by simpa using hss
      clear hss
      have D1 := Lib.hid (D1.out _ HW2.out)
      go_wp2_with fail
      refine D1.out.mono ?_
      rintro e w3 ⟨v3, rfl, hn3, hb3⟩
      obtain ⟨_, a4, c4, rfl, _, _⟩ := id hn3
      have HW3 := Lib.hid (HW2.out.trans (hb3.mono HW2.out.size))
      clear hn3 hb3
      generalize (Dg.db 65536 A).length = L at *
      go_wp2_with (at_make; refine wpList_make_full _ rfl _ _ 22 rfl w3.heap.size 43 i0 (.int .u64 0) 1 und_u64s hi hz0 hz1 .i64 .i64 _ _ (L + 1) rfl rfl ?_ ?_ ?_ ?_ ?_ ?_)
      · omega
      · omega
      · rw [hz2]; omega
      · unfold maxLen; omega
      · omega
      intro w4 hown hg
      have HR := Lib.hid (RowAt.made (Below.refl _ _) hown hg)
      have HD := Lib.hid (DvAt.start A B (L + 1))
      have HR0 := Lib.hid (start_rem A B)
      have CL2 := Lib.hid (CL.out w4 (HW3.out.trans (HR.out.2.2.mono HW3.out.size)))
      clear hown hg hi hz0 hz1 hz2
      generalize hgg : w3.heap.size = g at *
      have HGG := Lib.hid hgg
      clear hgg
      have hblb : Dg.bl A ≤ 65600 := by omega
      generalize Dg.bl A = BL at *
      go_wp2_with fail
      refine CL2.out.mono ?_
      rintro e w5 ⟨rfl, hb5⟩
      have HR := Lib.hid (HR.out.below hb5)
      clear hb5 CL2
      go_wp2_with fail
      go_loopw [11, 12] (fun u s wr => ∃ i : Nat, i ≤ BL ∧ s = .int .i64 ((i : Int) - 1) ∧ Hid (∃ ds, DvAt A B i (L + 1) ds ∧ RowAt w3 wr g (L + 1) ds) ∧ Hid (No (g + 1) wr u (Dg.db B64 (A / 2 ^ i % B)))) (fun _ s _ => (intOf s + 1).toNat)
      case atStart => exact ⟨BL, Nat.le_refl _, by go_num, Lib.hid ⟨_, HD.out, HR.out⟩, Lib.hid (by rw [HR0.out]; exact No.nil _ _)⟩
      case round =>
        clear HR HD HR0
        obtain ⟨i, hiB, rfl, hrel, hr⟩ := hrel
        obtain ⟨ds, hD, hR⟩ := hrel.out
        have HD := Lib.hid hD
        have HR := Lib.hid hR
        clear hrel hD hR
        obtain ⟨a5, c5, rfl⟩ := hr.out.slice
        by_cases hi0 : i = 0
        · subst hi0
          have hlt : ¬ (((0 : Nat) : Int) - 1 ≥ 0) := by omega
          have HE := Lib.hid (show Dg.dv 65536 ds = A / B by have := HD.out.2.2; simpa using this)
          have HJ := Lib.hid (join_calls _ _ wr (HR.out.nv (Ws16 HD.out.2.1)) HD.out.2.1 (by rw [HD.out.1]; omega))
          rw [HE.out] at HJ
          go_wp2_with fail
          refine HJ.out.mono ?_
          rintro e w6 ⟨v6, rfl, hn6, hb6⟩
          obtain ⟨a6, c6, rfl⟩ := hn6.slice
          have HWR := Lib.hid (HW3.out.trans (HR.out.2.2.mono HW3.out.size))
          have HN := Lib.hid (hn6.mono HWR.out.size)
          have HB6 := Lib.hid (HWR.out.trans (hb6.mono HWR.out.size))
          clear hn6 hb6
          go_wp2_with fail
          go_ret2
          exact ⟨_, _, _, _, rfl, HN.out, HB6.out⟩
        · obtain ⟨j, rfl⟩ : ∃ j, i = j + 1 := ⟨i - 1, by omega⟩
          have hij : ((j + 1 : Nat) : Int) - 1 = (j : Int) := by omega
          rw [hij]
          have hj0 : (j : Int) ≥ 0 := by omega
          have HRL := Lib.hid (Nat.mod_lt (A / 2 ^ (j + 1)) HB0.out)
          generalize hRR : A / 2 ^ (j + 1) % B = r at *
          have HRR := Lib.hid hRR
          clear hRR
          have HLR0 := Lib.hid (show (Dg.db B64 r).length ≤ 1025 from Nat.le_trans (db_len_mono (Nat.le_of_lt HRL.out)) HLB.out)
          have HLR := Lib.hid (show (Dg.db B64 (r + r)).length ≤ 1026 ∧ (Dg.db B64 (r + r + 1)).length ≤ 1027 from ⟨Nat.le_trans (db_add_len HLR0.out HLR0.out) (Nat.le_refl _), Nat.le_trans (db_add_len (p := 1026) (Nat.le_trans (db_add_len HLR0.out HLR0.out) (Nat.le_refl _)) (by rw [db_one]; decide)) (Nat.le_refl _)⟩)
          have CA := Lib.hid (add_can hr.out.nv hr.out.nv (by have := HLR0.out; omega) (by have := HLR0.out; omega))
          have HGL := Lib.hid (World.ownsRow.lt HR.out.2.1 g (by simp [Value.ownBlock])).2
          go_wp2_with fail
          refine CA.out.mono ?_
          rintro e w6 ⟨v6, rfl, hn6, hb6⟩
          obtain ⟨a6, c6, rfl⟩ := hn6.slice
          have hr6 := Lib.hid (show No (g + 1) w6 (.slice a6 (Dg.db B64 (r + r)).length c6) (Dg.db B64 (r + r)) from hn6.mono (by have := HGL.out; omega))
          have HR6 := Lib.hid (HR.out.below hb6)
          have HWB := Lib.hid (HW3.out.trans (HR6.out.2.2.mono HW3.out.size))
          have CB2 := Lib.hid (CB.out w6 HWB.out j (by omega))
          clear hn6 hb6 CA
          go_wp2_with fail
          refine CB2.out.mono ?_
          rintro e w7 ⟨rfl, hb7⟩
          have HRW := Lib.hid (HR6.out.below hb7)
          have hr7 := Lib.hid (hr6.out.below hb7)
          have HWB := Lib.hid (HWB.out.trans (hb7.mono HWB.out.size))
          clear hb7 CB2
          by_cases hbit : A / 2 ^ j % 2 = 1
          · rw [decide_eq_true hbit]
            have HBIT := Lib.hid hbit
            clear hbit
            have CA := Lib.hid (add2_calls (.slice a6 (Dg.db B64 (r + r)).length c6) (.slice (some ⟨w7.heap.size, 0, none⟩) 1 1) _ [1] (w7.alloc (.cells #[.int .u64 ((1 : Nat) : Int)] 43)) (hr7.out.nv.alloc _) (Nv.lit w7 (by decide)) (by have := HLR.out; omega) (by decide))
            rw [Dg.dv_db (by decide), show Dg.dv B64 [1] = 1 from rfl] at CA
            have HRA := Lib.hid (HRW.out.below ((Below.refl w7.heap.size w7).alloc (Nat.le_refl _) (.cells #[.int .u64 ((1 : Nat) : Int)] 43)))
            have HWA := Lib.hid (HWB.out.alloc HWB.out.size (.cells #[.int .u64 ((1 : Nat) : Int)] 43))
            have HGA := Lib.hid (World.ownsRow.lt HRA.out.2.1 g (by simp [Value.ownBlock])).2
            go_wp2_with fail
            refine CA.out.mono ?_
            rintro e wA ⟨vA, rfl, hnA, hbA⟩
            obtain ⟨aA, cA, rfl⟩ := hnA.slice
            have hr7 := Lib.hid (show No (g + 1) wA (.slice aA (Dg.db B64 (r + r + 1)).length cA) (Dg.db B64 (r + r + 1)) from hnA.mono (by have := HGA.out; omega))
            have HRW := Lib.hid (HRA.out.below hbA)
            have HWB := Lib.hid (HWA.out.trans (hbA.mono HWA.out.size))
            clear hnA hbA CA
            have CC := Lib.hid (cmp_can hr7.out.nv (h2n.out _ HWB.out) (by have := HLR.out; omega) (by have := HLB.out; omega))
            have hcz := Dg.cmpZ_nonneg (m := (r + r + 1)) (n := B)
            generalize Dg.cmpZ (r + r + 1) B = cz at *
            go_wp2_with fail
            refine CC.out.mono ?_
            rintro e w8 ⟨rfl, hb8⟩
            have HR8 := Lib.hid (HRW.out.below hb8)
            have hr8 := Lib.hid (hr7.out.below hb8)
            have HWB := Lib.hid (HWB.out.trans (hb8.mono HWB.out.size))
            clear hb8 CC
            by_cases hge : B ≤ (r + r + 1)
            · have hcz1 : cz ≥ 0 := hcz.2 hge
              clear hcz
              have CS := Lib.hid (sub_can hr8.out.nv (h2n.out _ HWB.out) (by have := HLR.out; omega) (by have := HLB.out; omega) hge)
              obtain ⟨s1, s2⟩ := HD.out.one HB0.out (by rw [HBIT.out, HRR.out]; omega) (show j / 16 < L + 1 by omega)
              have HREM := Lib.hid (show A / 2 ^ j % B = (r + r + 1) - B by have := ((Dg.div_next HB0.out).2 (show B ≤ 2 * (A / 2 ^ (j + 1) % B) + A / 2 ^ j % 2 by rw [HBIT.out, HRR.out]; omega)).2; rw [HBIT.out, HRR.out] at this; omega)
              clear hge
              go_wp2_with fail
              refine CS.out.mono ?_
              rintro e w9 ⟨v9, rfl, hn9, hb9⟩
              obtain ⟨a9, c9, rfl⟩ := hn9.slice
              have HR9 := Lib.hid (HR8.out.below hb9)
              have hr9 := Lib.hid (show No (g + 1) w9 (.slice a9 (Dg.db B64 ((r + r + 1) - B)).length c9) (Dg.db B64 ((r + r + 1) - B)) from hn9.mono (by have := (World.ownsRow.lt HR8.out.2.1 g (by simp [Value.ownBlock])).2; omega))
              clear hn9 hb9 CS
              have HDS := Lib.hid s2
              clear s2
              have hdn : ((j : Nat) : Int) / 16 = ((j / 16 : Nat) : Int) := by omega
              have hmn : ((j : Nat) : Int) % 16 = ((j % 16 : Nat) : Int) := by omega
              have hr16 : j % 16 < 16 := Nat.mod_lt _ (by decide)
              have hjL : j / 16 < L + 1 := by omega
              have hcell := HR9.out.cell (k := j / 16) hjL
              have hfree := HR9.out.free (j / 16)
              have HRS := Lib.hid (fun r => HR9.out.set (j / 16) r)
              generalize j / 16 = qj at *
              generalize j % 16 = rj at *
              generalize ds.getD qj 0 = old at *
              have hq0 : (0 : Int) ≤ (qj : Int) ∧ (qj : Int) < (L : Int) + 1 := by omega
              go_wp2_with fail
              go_loop [13, 14] (fun u s => ∃ k z : Nat, k ≤ rj ∧ s = .int .i64 k ∧ u = .int .u64 z ∧ Hid (z = 2 ^ k)) (fun _ s => rj - (intOf s).toNat)
              case atStart => exact ⟨0, 1, Nat.zero_le _, rfl, rfl, Lib.hid (by simp)⟩
              case round =>
                obtain ⟨k, z, hk, rfl, rfl, hrel⟩ := hrel
                by_cases hkr : k < rj
                · have hzb : z < 65536 := by rw [hrel.out]; exact pow16_lt (by omega)
                  have hwz : IntKind.u64.wrap (2 * (z : Int)) = 2 * (z : Int) := by rw [IntKind.wrap_u64]; omega
                  have hlt3 : (k : Int) < rj := by omega
                  go_wp2_with fail
                  go_round
                  case rel => exact ⟨k + 1, 2 * z, hkr, by go_num, congrArg _ (by omega), Lib.hid (by rw [hrel.out, Nat.pow_succ, Nat.mul_comm])⟩
                  case measure => simp only [intOf]; omega
                · have hkr2 : k = rj := by omega
                  have hlt3 : ¬ ((k : Int) < rj) := by omega
                  have hz : 2 ^ rj = z := by rw [hrel.out, hkr2]
                  rw [hz] at s1 HDS
                  have hwz : IntKind.u64.wrap ((old : Int) + z) = (old : Int) + z := by rw [IntKind.wrap_u64]; omega
                  have HR7 := HRS.out (old + z)
                  rw [show ((old + z : Nat) : Int) = (old : Int) + z from by omega] at HR7
                  have HR7 := Lib.hid HR7
                  clear hz
                  go_wp2_with fail
                  go_roundw
                  case rel => exact ⟨j, by omega, by go_num, Lib.hid ⟨_, HDS.out, HR7.out⟩, Lib.hid (by rw [HREM.out]; exact hr9.out.kept (grownBy_setCell _ _ _ _) (fun h => by have := (hr9.out.lt g h).1; omega))⟩
                  case measure => simp only [intOf]; omega
            · have hcz1 : ¬ (cz ≥ 0) := fun h => hge (hcz.1 h)
              clear hcz
              have HDS := Lib.hid (HD.out.zero HB0.out (by rw [HBIT.out, HRR.out]; omega))
              have HREM := Lib.hid (show A / 2 ^ j % B = (r + r + 1) by have := ((Dg.div_next HB0.out).1 (show 2 * (A / 2 ^ (j + 1) % B) + A / 2 ^ j % 2 < B by rw [HBIT.out, HRR.out]; omega)).2; rw [HBIT.out, HRR.out] at this; omega)
              clear hge
              go_wp2_with fail
              go_roundw
              case rel => exact ⟨j, by omega, by go_num, Lib.hid ⟨_, HDS.out, HR8.out⟩, Lib.hid (by rw [HREM.out]; exact hr8.out)⟩
              case measure => simp only [intOf]; omega
          · rw [decide_eq_false hbit]
            have HBIT := Lib.hid (show A / 2 ^ j % 2 = 0 by omega)
            clear hbit
            have CC := Lib.hid (cmp_can hr7.out.nv (h2n.out _ HWB.out) (by have := HLR.out; omega) (by have := HLB.out; omega))
            have hcz := Dg.cmpZ_nonneg (m := (r + r)) (n := B)
            generalize Dg.cmpZ (r + r) B = cz at *
            go_wp2_with fail
            refine CC.out.mono ?_
            rintro e w8 ⟨rfl, hb8⟩
            have HR8 := Lib.hid (HRW.out.below hb8)
            have hr8 := Lib.hid (hr7.out.below hb8)
            have HWB := Lib.hid (HWB.out.trans (hb8.mono HWB.out.size))
            clear hb8 CC
            by_cases hge : B ≤ (r + r)
            · have hcz1 : cz ≥ 0 := hcz.2 hge
              clear hcz
              have CS := Lib.hid (sub_can hr8.out.nv (h2n.out _ HWB.out) (by have := HLR.out; omega) (by have := HLB.out; omega) hge)
              obtain ⟨s1, s2⟩ := HD.out.one HB0.out (by rw [HBIT.out, HRR.out]; omega) (show j / 16 < L + 1 by omega)
              have HREM := Lib.hid (show A / 2 ^ j % B = (r + r) - B by have := ((Dg.div_next HB0.out).2 (show B ≤ 2 * (A / 2 ^ (j + 1) % B) + A / 2 ^ j % 2 by rw [HBIT.out, HRR.out]; omega)).2; rw [HBIT.out, HRR.out] at this; omega)
              clear hge
              go_wp2_with fail
              refine CS.out.mono ?_
              rintro e w9 ⟨v9, rfl, hn9, hb9⟩
              obtain ⟨a9, c9, rfl⟩ := hn9.slice
              have HR9 := Lib.hid (HR8.out.below hb9)
              have hr9 := Lib.hid (show No (g + 1) w9 (.slice a9 (Dg.db B64 ((r + r) - B)).length c9) (Dg.db B64 ((r + r) - B)) from hn9.mono (by have := (World.ownsRow.lt HR8.out.2.1 g (by simp [Value.ownBlock])).2; omega))
              clear hn9 hb9 CS
              have HDS := Lib.hid s2
              clear s2
              have hdn : ((j : Nat) : Int) / 16 = ((j / 16 : Nat) : Int) := by omega
              have hmn : ((j : Nat) : Int) % 16 = ((j % 16 : Nat) : Int) := by omega
              have hr16 : j % 16 < 16 := Nat.mod_lt _ (by decide)
              have hjL : j / 16 < L + 1 := by omega
              have hcell := HR9.out.cell (k := j / 16) hjL
              have hfree := HR9.out.free (j / 16)
              have HRS := Lib.hid (fun r => HR9.out.set (j / 16) r)
              generalize j / 16 = qj at *
              generalize j % 16 = rj at *
              generalize ds.getD qj 0 = old at *
              have hq0 : (0 : Int) ≤ (qj : Int) ∧ (qj : Int) < (L : Int) + 1 := by omega
              go_wp2_with fail
              go_loop [13, 14] (fun u s => ∃ k z : Nat, k ≤ rj ∧ s = .int .i64 k ∧ u = .int .u64 z ∧ Hid (z = 2 ^ k)) (fun _ s => rj - (intOf s).toNat)
              case atStart => exact ⟨0, 1, Nat.zero_le _, rfl, rfl, Lib.hid (by simp)⟩
              case round =>
                obtain ⟨k, z, hk, rfl, rfl, hrel⟩ := hrel
                by_cases hkr : k < rj
                · have hzb : z < 65536 := by rw [hrel.out]; exact pow16_lt (by omega)
                  have hwz : IntKind.u64.wrap (2 * (z : Int)) = 2 * (z : Int) := by rw [IntKind.wrap_u64]; omega
                  have hlt3 : (k : Int) < rj := by omega
                  go_wp2_with fail
                  go_round
                  case rel => exact ⟨k + 1, 2 * z, hkr, by go_num, congrArg _ (by omega), Lib.hid (by rw [hrel.out, Nat.pow_succ, Nat.mul_comm])⟩
                  case measure => simp only [intOf]; omega
                · have hkr2 : k = rj := by omega
                  have hlt3 : ¬ ((k : Int) < rj) := by omega
                  have hz : 2 ^ rj = z := by rw [hrel.out, hkr2]
                  rw [hz] at s1 HDS
                  have hwz : IntKind.u64.wrap ((old : Int) + z) = (old : Int) + z := by rw [IntKind.wrap_u64]; omega
                  have HR7 := HRS.out (old + z)
                  rw [show ((old + z : Nat) : Int) = (old : Int) + z from by omega] at HR7
                  have HR7 := Lib.hid HR7
                  clear hz
                  go_wp2_with fail
                  go_roundw
                  case rel => exact ⟨j, by omega, by go_num, Lib.hid ⟨_, HDS.out, HR7.out⟩, Lib.hid (by rw [HREM.out]; exact hr9.out.kept (grownBy_setCell _ _ _ _) (fun h => by have := (hr9.out.lt g h).1; omega))⟩
                  case measure => simp only [intOf]; omega
            · have hcz1 : ¬ (cz ≥ 0) := fun h => hge (hcz.1 h)
              clear hcz
              have HDS := Lib.hid (HD.out.zero HB0.out (by rw [HBIT.out, HRR.out]; omega))
              have HREM := Lib.hid (show A / 2 ^ j % B = (r + r) by have := ((Dg.div_next HB0.out).1 (show 2 * (A / 2 ^ (j + 1) % B) + A / 2 ^ j % 2 < B by rw [HBIT.out, HRR.out]; omega)).2; rw [HBIT.out, HRR.out] at this; omega)
              clear hge
              go_wp2_with fail
              go_roundw
              case rel => exact ⟨j, by omega, by go_num, Lib.hid ⟨_, HDS.out, HR8.out⟩, Lib.hid (by rw [HREM.out]; exact hr8.out)⟩
              case measure => simp only [intOf]; omega

end Go.Proofs.YthlpfhenaakljaaGreatDoor

namespace Go.Proofs.YthlpfhenaakljaaGreatDoor
open Go.RowKit

set_option maxHeartbeats 1600000 in
theorem sign6_calls (b : Bool) (v : Value) (xs : List Nat) (w : World) (hv : Nv w v xs) (hl : xs.length ≤ 1048576) :
    Calls Tryz.prog 68 #[.bool b, v] w (RetI (sgn b (Dg.dv B64 xs)) w) := by
  obtain ⟨_, a1, c1, rfl, _, _⟩ := id hv
  have HB := Lib.hid (sgn_neg b (Dg.dv B64 xs))
  have HA := Lib.hid (sgn_abs b (Dg.dv B64 xs))
  have CT := Lib.hid (fun wx (hb : Below w.heap.size w wx) => trim2_calls _ xs wx (hv.below hb) hl)
  clear hv
  generalize Dg.dv B64 xs = V at *
  generalize sgn b V = S at *
  go_enter Tryz.func68, Tryz.ntmps68
  go_upto_region 1 with fail
  obtain ⟨g1, hB0, hsz⟩ := one_block w (.cells #[.bool false, .slice none 0 0] 25)
  generalize w.alloc (.cells #[.bool false, .slice none 0 0] 25) = W at *
  have CT2 := Lib.hid (CT.out W hB0)
  clear CT
  have HG := Lib.hid g1
  have HB0 := Lib.hid hB0
  have HS := Lib.hid hsz
  clear g1 hB0 hsz
  have HGE := Lib.hid (Nat.le_refl w.heap.size)
  generalize hj : w.heap.size = j1 at *
  have HJ := Lib.hid hj
  clear hj
  go_wp2_with fail
  refine CT2.out.mono ?_
  rintro e w2 ⟨v2, rfl, hn, hb⟩
  obtain ⟨a2, c2, rfl⟩ := hn.slice
  have HN := Lib.hid hn
  have hg2 := block_of hb HG.out
  have HG2 := Lib.hid hg2
  have HB2 := Lib.hid (HB0.out.trans (hb.mono (Nat.le_of_lt HS.out)))
  have t0 := frozen_of_row _ _ 0 _ _ hg2
  have t1 := frozen_of_row _ _ 1 _ _ hg2
  have v0 := cell_of_row _ _ 0 _ _ (0, 0) hg2
  have v1 := cell_of_row _ _ 1 _ _ (0, 0) hg2
  clear hn hb hg2
  have HPOST := Lib.hid (show ∀ (bb : Bool) (tm : Array Value), bb = decide (S < 0) → RetI S w (.returned (.agg #[.bool bb, .slice a2 (Dg.db B64 V).length c2])) ((w2.setCell ⟨j1, 0, none⟩ (.bool bb)).setCell ⟨j1, 1, none⟩ (.slice a2 (Dg.db B64 V).length c2)) from fun bb _ hbb => by
    have hB : Below w.heap.size w w2 := by rw [HJ.out]; exact HB2.out
    obtain ⟨f1, f2⟩ := filled hB (by rw [HJ.out]; exact Nat.le_refl _) HN.out HS.out (.bool bb) (.slice a2 (Dg.db B64 V).length c2)
    exact ⟨_, by rw [hbb], by rw [HA.out]; exact f1, f2⟩)
  cases b
  · go_wp2_with fail
    refine ret_row rfl _ _ j1 25 _ (0, 0) rfl (stored2 HG2.out _ _) und_Int size_Int ?_
    exact HPOST.out _ #[] (by rw [HB.out]; rfl)
  · have HE := Lib.hid (show decide (0 < (Dg.db B64 V).length) = decide (S < 0) by
      rw [HB.out, Bool.true_and, decide_eq_decide]
      constructor
      · intro h h0
        rw [h0, Dg.db_zero] at h
        simp at h
      · exact db_len_pos)
    go_wp2_with fail
    refine ret_row rfl _ _ j1 25 _ (0, 0) rfl (stored2 HG2.out _ _) und_Int size_Int ?_
    exact HPOST.out _ #[] HE.out

end Go.Proofs.YthlpfhenaakljaaGreatDoor

namespace Go.Proofs.YthlpfhenaakljaaGreatDoor
open Go.RowKit

set_option maxHeartbeats 1600000 in
theorem make6z_calls (b : Bool) (m1 m2 : Value) (xs ys : List Nat) (w : World) (h1 : Nv w m1 xs) (h2 : Nv w m2 ys) (l2 : ys.length ≤ 1024) (h0 : Dg.dv B64 ys = 0) :
    Calls Tryz.prog 40 #[.agg #[.bool b, m1], m2] w (RetMk b (Dg.dv B64 xs) (Dg.dv B64 ys) w) := by
  obtain ⟨_, a1, c1, rfl, _, _⟩ := id h1
  obtain ⟨_, a2, c2, rfl, _, _⟩ := id h2
  have Z := Lib.hid (fun wx (hb : Below w.heap.size w wx) => trim2_calls _ ys wx (h2.below hb) (by omega))
  rw [h0, Dg.db_zero] at Z
  have H0 := Lib.hid h0
  clear h1 h2 h0
  go_enter Tryz.func40, Tryz.ntmps40
  go_upto_region 1 with fail
  obtain ⟨g1, g2, hB0, hsz⟩ := two_blocks w (.cells #[.bool b, .slice a1 xs.length c1] 25) (.cells #[.bool false, .slice none 0 0, .slice none 0 0] 27)
  generalize (w.alloc (.cells #[.bool b, .slice a1 xs.length c1] 25)).alloc (.cells #[.bool false, .slice none 0 0, .slice none 0 0] 27) = W at *
  have HZ := Lib.hid (Z.out _ hB0)
  have HG := Lib.hid g2
  have HB0 := Lib.hid hB0
  have HS0 := Lib.hid (show w.heap.size ≤ W.heap.size by omega)
  have hge := Lib.hid (show w.heap.size ≤ w.heap.size + 1 by omega)
  clear g1 g2 hB0 hsz Z
  generalize w.heap.size + 1 = j3 at *
  go_wp2_with fail
  refine HZ.out.mono ?_
  rintro e w1 ⟨v, rfl, hn, hb⟩
  obtain ⟨a3, c3, rfl⟩ := hn.slice
  rw [List.length_nil]
  have hg := block_of hb HG.out
  have HG2 := Lib.hid hg
  have HB2 := Lib.hid (HB0.out.trans (hb.mono HS0.out))
  have hf0 := frozen_of_row _ _ 0 _ _ hg
  have hf1 := frozen_of_row _ _ 1 _ _ hg
  have hf2 := frozen_of_row _ _ 2 _ _ hg
  have hr0 := cell_of_row _ _ 0 _ _ (0, 0) hg
  have hr1 := cell_of_row _ _ 1 _ _ (0, 0) hg
  have hr2 := cell_of_row _ _ 2 _ _ (0, 0) hg
  clear hg hn hb
  go_wp2_with fail
  refine ret_row_tmp rfl _ _ j3 27 _ (0, 0) rfl (stored3 HG2.out _ _ _) und_Rat size_Rat ?_
  exact ⟨((HB2.out.setCell hge.out _).setCell hge.out _).setCell hge.out _, fun _ => rfl, (fun h => absurd H0.out h)⟩

set_option maxHeartbeats 3200000 in
theorem make6n_calls (b : Bool) (m1 m2 : Value) (xs ys : List Nat) (w : World) (h1 : Nv w m1 xs) (h2 : Nv w m2 ys) (l1 : xs.length ≤ 1024) (l2 : ys.length ≤ 1024) (h0 : Dg.dv B64 ys ≠ 0) :
    Calls Tryz.prog 40 #[.agg #[.bool b, m1], m2] w (RetMk b (Dg.dv B64 xs) (Dg.dv B64 ys) w) := by
  obtain ⟨_, a1, c1, rfl, _, _⟩ := id h1
  obtain ⟨_, a2, c2, rfl, _, _⟩ := id h2
  have hgp : 0 < Nat.gcd (Dg.dv B64 xs) (Dg.dv B64 ys) := Nat.gcd_pos_of_pos_right _ (by omega)
  have hdl : (Dg.db B64 (Dg.dv B64 ys)).length ≤ 1024 := Nat.le_trans (Dg.db_length (b := B64) (by decide) (Dg.dv_lt ys h2.1)) l2
  have hxl : (Dg.db B64 (Dg.dv B64 xs)).length ≤ 1024 := Nat.le_trans (Dg.db_length (b := B64) (by decide) (Dg.dv_lt xs h1.1)) l1
  have hgl : (Dg.db B64 (Nat.gcd (Dg.dv B64 xs) (Dg.dv B64 ys))).length ≤ 1024 :=
    Nat.le_trans (db_len_mono (Nat.le_of_dvd (by omega) (Nat.gcd_dvd_right _ _))) hdl
  have hnl : (Dg.db B64 (Dg.dv B64 xs / Nat.gcd (Dg.dv B64 xs) (Dg.dv B64 ys))).length ≤ 1024 :=
    Nat.le_trans (db_len_mono (Nat.div_le_self _ _)) hxl
  have Z := Lib.hid (fun wx (hb : Below w.heap.size w wx) => trim2_calls _ ys wx (h2.below hb) (by omega))
  have G := Lib.hid (fun wx v (hb : Below w.heap.size w wx) (hv : Nv wx v (Dg.db B64 (Dg.dv B64 ys))) => gcd2_calls _ v xs _ wx (h1.below hb) hv l1 hdl)
  have D1 := Lib.hid (fun wx v (hb : Below w.heap.size w wx) (hv : Nv wx v (Dg.db B64 (Nat.gcd (Dg.dv B64 xs) (Dg.dv B64 ys)))) => div6_calls _ v xs _ wx (h1.below hb) hv (by omega) (by omega) (by rw [Dg.dv_db (by decide)]) (by rw [Dg.dv_db (by decide)]; omega))
  have D2 := Lib.hid (fun wx v' v (hv' : Nv wx v' (Dg.db B64 (Dg.dv B64 ys))) (hv : Nv wx v (Dg.db B64 (Nat.gcd (Dg.dv B64 xs) (Dg.dv B64 ys)))) => div6_calls v' v _ _ wx hv' hv (by omega) (by omega) (by rw [Dg.dv_db (by decide)]) (by rw [Dg.dv_db (by decide)]; omega))
  have MK := Lib.hid (fun wx v (hv : Nv wx v (Dg.db B64 (Dg.dv B64 xs / Nat.gcd (Dg.dv B64 xs) (Dg.dv B64 ys)))) => sign6_calls b v _ wx hv (by omega))
  rw [Dg.dv_db (by decide)] at G D1 MK
  rw [Dg.dv_db (by decide), Dg.dv_db (by decide)] at D2
  have H0 := Lib.hid h0
  have hlp := db_len_pos h0
  have hlp2 : (((Dg.db B64 (Dg.dv B64 ys)).length : Int) == 0) = false := by rw [beq_eq_false_iff_ne]; omega
  clear h1 h2 h0 hgp hgl hnl l1 l2 hdl hxl hlp
  generalize Dg.dv B64 xs = n at *
  generalize Dg.dv B64 ys = d at *
  generalize hq1 : n / Nat.gcd n d = q1 at *
  have HQ1 := Lib.hid hq1
  clear hq1
  go_enter Tryz.func40, Tryz.ntmps40
  go_upto_region 1 with fail
  obtain ⟨g1, g2, hB0, hsz⟩ := two_blocks w (.cells #[.bool b, .slice a1 xs.length c1] 25) (.cells #[.bool false, .slice none 0 0, .slice none 0 0] 27)
  generalize (w.alloc (.cells #[.bool b, .slice a1 xs.length c1] 25)).alloc (.cells #[.bool false, .slice none 0 0, .slice none 0 0] 27) = W at *
  have HZ := Lib.hid (Z.out _ hB0)
  have HG1 := Lib.hid g1
  have HG2 := Lib.hid g2
  have HB0 := Lib.hid hB0
  have HS0 := Lib.hid (show w.heap.size ≤ W.heap.size by omega)
  have hge := Lib.hid (show w.heap.size ≤ w.heap.size + 1 by omega)
  clear g1 g2 hB0 hsz Z
  generalize w.heap.size + 1 = j3 at *
  generalize hj : w.heap.size = j1 at *
  have HJ := Lib.hid hj
  clear hj
  go_wp2_with fail
  refine HZ.out.mono ?_
  rintro e w1 ⟨vd, rfl, hno, hb⟩
  obtain ⟨a3, c3, rfl⟩ := hno.slice
  have HND := Lib.hid hno.nv
  have HB1 := Lib.hid (HB0.out.trans (hb.mono HS0.out))
  have HS1 := Lib.hid (Nat.le_trans HS0.out hb.size)
  have HG1 := Lib.hid (block_of hb HG1.out)
  have HG2 := Lib.hid (block_of hb HG2.out)
  have hc1 := cell_of_row _ _ 1 _ _ (0, 0) HG1.out
  clear hno hb
  go_wp2_with fail
  refine (G.out _ _ HB1.out HND.out).mono ?_
  rintro e w2 ⟨vg, rfl, hno, hb⟩
  obtain ⟨a9, c9, rfl⟩ := hno.slice
  have HN2 := Lib.hid hno
  have HND := Lib.hid (HND.out.below hb)
  have HB2 := Lib.hid (HB1.out.trans (hb.mono HS1.out))
  have HS2 := Lib.hid (Nat.le_trans HS1.out hb.size)
  have HG1 := Lib.hid (block_of hb HG1.out)
  have HG2 := Lib.hid (block_of hb HG2.out)
  have hc1 := cell_of_row _ _ 1 _ _ (0, 0) HG1.out
  clear hno hb
  go_wp2_with fail
  refine (D1.out _ _ HB2.out HN2.out.nv).mono ?_
  rintro e w3 ⟨vq, ar, nr, cr, rfl, hno, hb⟩
  obtain ⟨a8, c8, rfl⟩ := hno.slice
  have HN3 := Lib.hid hno
  have HNG := Lib.hid (HN2.out.below hb)
  have HND := Lib.hid (HND.out.below hb)
  have HB3 := Lib.hid (HB2.out.trans (hb.mono HS2.out))
  have HS3 := Lib.hid (Nat.le_trans HS2.out hb.size)
  have HG1 := Lib.hid (block_of hb HG1.out)
  have HG2 := Lib.hid (block_of hb HG2.out)
  have hc1 := cell_of_row _ _ 1 _ _ (0, 0) HG1.out
  clear hno hb
  go_wp2_with fail
  refine (D2.out _ _ _ HND.out HNG.out.nv).mono ?_
  rintro e w4 ⟨vq2, ar2, nr2, cr2, rfl, hno, hb⟩
  obtain ⟨a4, c4, rfl⟩ := hno.slice
  have HN4 := Lib.hid hno
  have HNQ := Lib.hid (HN3.out.below hb)
  have HB4 := Lib.hid (HB3.out.trans (hb.mono HS3.out))
  have HS4 := Lib.hid (Nat.le_trans HS3.out hb.size)
  have hj3 := Lib.hid (heap_lt HG2.out)
  have HG1 := Lib.hid (block_of hb HG1.out)
  have HG2 := Lib.hid (block_of hb HG2.out)
  have hc1 := cell_of_row _ _ 1 _ _ (0, 0) HG1.out
  have hc0 := cell_of_row _ _ 0 _ _ (0, 0) HG1.out
  clear hno hb
  go_wp2_with fail
  refine (MK.out _ _ HNQ.out.nv).mono ?_
  rintro e w5 ⟨vn, rfl, hno, hb⟩
  obtain ⟨a5, c5, rfl⟩ := hno.slice
  have HN5 := Lib.hid hno
  have HND := Lib.hid (HN4.out.below hb)
  have HB5 := Lib.hid (HB4.out.trans (hb.mono HS4.out))
  have hj34 := Lib.hid (heap_lt HG2.out)
  have HG2 := Lib.hid (block_of hb HG2.out)
  have hf0 := frozen_of_row _ _ 0 _ _ HG2.out
  have hf1 := frozen_of_row _ _ 1 _ _ HG2.out
  have hf2 := frozen_of_row _ _ 2 _ _ HG2.out
  have hr0 := cell_of_row _ _ 0 _ _ (0, 0) HG2.out
  have hr1 := cell_of_row _ _ 1 _ _ (0, 0) HG2.out
  have hr2 := cell_of_row _ _ 2 _ _ (0, 0) HG2.out
  clear hno hb
  generalize hze : decide (sgn b q1 < 0) = bb at *
  have HZE := Lib.hid hze
  clear hze
  go_wp2_with fail
  refine ret_row_tmp rfl _ _ j3 27 _ (0, 0) rfl (stored3 HG2.out _ _ _) und_Rat size_Rat ?_
  have hj := HJ.out
  subst hj
  obtain ⟨f1, f2⟩ := filled3 HB5.out hge.out (.bool bb) (.slice a5 (Dg.db B64 (sgn b q1).natAbs).length c5) (.slice a4 (Dg.db B64 (d / Nat.gcd n d)).length c4)
  refine ⟨f1, (fun h => absurd h H0.out), fun _ => ⟨_, rfl, ?_⟩⟩
  rw [HQ1.out]
  exact ⟨.slice a5 (Dg.db B64 (sgn b q1).natAbs).length c5, .slice a4 (Dg.db B64 (d / Nat.gcd n d)).length c4, by rw [HZE.out], f2 _ _ _ hj34.out HN5.out, f2 _ _ _ hj3.out HND.out⟩

theorem make6_calls (b : Bool) (m1 m2 : Value) (xs ys : List Nat) (w : World) (h1 : Nv w m1 xs) (h2 : Nv w m2 ys) (l1 : xs.length ≤ 1024) (l2 : ys.length ≤ 1024) :
    Calls Tryz.prog 40 #[.agg #[.bool b, m1], m2] w (RetMk b (Dg.dv B64 xs) (Dg.dv B64 ys) w) := by
  by_cases h0 : Dg.dv B64 ys = 0
  · exact make6z_calls b m1 m2 xs ys w h1 h2 l2 h0
  · exact make6n_calls b m1 m2 xs ys w h1 h2 l1 l2 h0

end Go.Proofs.YthlpfhenaakljaaGreatDoor
