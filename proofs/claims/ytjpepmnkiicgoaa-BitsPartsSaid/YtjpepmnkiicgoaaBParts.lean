/- The law BitsParts: the walk by hand (two writers at once). -/
import Derived.Test.YtjpepmnkiicgoaaPx3
import Derived.Test.YtjpepmnkiicgoaaPx1
import Derived.Test.YtjpepmnkiicgoaaBitL
import Derived.Test.YtjpepmnkiicgoaaOwn
import Derived.Test.YtjpepmnkiicgoaaBits
import Derived.OneCell
import Derived.RegionTactic
import Derived.BigRegion
import Derived.Outline
import Derived.Deep.QuietTactic
import Derived.BigQuiet
namespace Go.Proofs.Ytjpepmnkiicgoaa.P
open Go.RowKit Go.Proofs.Ytjpepmnkiicgoaa.Kit Go.Proofs.Ytjpepmnkiicgoaa.Var Go.Proofs.YtjpepmnkiicgoaaW.PrintWords Go.Proofs.YtjpepmnkiicgoaaW.PrintLast Go.Proofs.YtjpepmnkiicgoaaW.PrintMore
attribute [local go_sem] max2_int min2_int max_two min_two
set_option linter.unusedVariables false
set_option linter.unusedSimpArgs false

theorem bitsOf_split (k : Nat) (v : Int) : ∀ m : Nat, bitsOf (m + k) v = bitsOf m (v / 2 ^ k) ++ bitsOf k v
  | 0 => by simp [bitsOf]
  | m + 1 => by
    rw [show m + 1 + k = (m + k) + 1 by omega, bitsOf, bitsOf, bitsOf_split k v m, Nat.add_comm m k, Int.pow_add, ← Int.ediv_ediv_of_nonneg (Int.le_of_lt (Int.pow_pos (by decide)))]
    rfl
theorem bitsOf_parts (w k : Nat) (v : Int) (h : k ≤ w) : bitsOf w v = bitsOf (w - k) (v / 2 ^ k) ++ bitsOf k (v % 2 ^ k) := by
  rw [bitsOf_mod k v k (Nat.le_refl _)]
  have := bitsOf_split k v (w - k)
  rwa [show w - k + k = w by omega] at this
/-- The three bits of each byte ahead. -/
def ahB (l : List Int) : List Int := l.flatMap fun x => bitsOf 3 (x % 8)
theorem ahB_take (l : List Int) (i : Nat) (h : i < l.length) : ahB (l.take (i + 1)) = ahB (l.take i) ++ bitsOf 3 (rd l (i : Int) % 8) := by
  rw [List.take_add_one, List.getElem?_eq_getElem h, Option.toList_some, rd_nat, List.getD_eq_getElem?_getD, List.getElem?_eq_getElem h, Option.getD_some]
  unfold ahB
  rw [List.flatMap_append]
  simp only [List.flatMap_cons, List.flatMap_nil, List.append_nil]
theorem ahB_length (l : List Int) : (ahB l).length = 3 * l.length := by
  induction l with
  | nil => rfl
  | cons x l ih =>
    rw [show ahB (x :: l) = bitsOf 3 (x % 8) ++ ahB l by simp [ahB], List.length_append, bitsOf_length, ih, List.length_cons]
    omega
theorem and7 (x : Int) (h : 0 ≤ x ∧ x < 256) : Go.bits .and .u8 x 7 = x % 8 := by
  obtain ⟨n, rfl⟩ := Int.eq_ofNat_of_zero_le h.1
  have key : ∀ m : Fin 256, Go.bits .and .u8 ((m : Nat) : Int) 7 = ((m : Nat) : Int) % 8 := by decide +kernel
  exact key ⟨n, by omega⟩
theorem and63 (a : Int) : Go.bits .and .i64 a 63 = ((a % 64).toNat : Int) := by
  have h := and_mask a 6 (by omega)
  rw [show (2 : Int) ^ 6 = 64 by decide] at h
  rw [show (63 : Int) = 64 - 1 by decide, h]
  omega
/-- Nothing plain is left to show. -/
def casketlaw01_BitsParts.Pure : Prop := True
set_option maxHeartbeats 1000000 in
theorem casketlaw01_BitsParts.walk (P : casketlaw01_BitsParts.Pure) (a0 a1 a2 : Int) (a3 : Option Addr) (len3 cap3 : Nat) (z3 : List Int) (w : World) (h0 : (Lit.int .u64 a0).wf = true) (h1 : (Lit.int .i64 a1).wf = true) (h2 : (Lit.int .i64 a2).wf = true)
    (h3 : (a3 = none ∧ len3 = 0 ∧ cap3 = 0 ∧ z3 = []) ∨ ∃ x, a3 = some x ∧ len3 ≤ cap3 ∧ cap3 ≤ maxLen ∧ z3.length = cap3 ∧ (∀ i, i < z3.length → w.cell? (x.add i) = some (.int .u8 (z3.getD i 0))) ∧ ∀ n ∈ z3, (Lit.int .u8 n).wf = true) (y3 : len3 * 1 ≤ 140737488351232) :
    Calls Try.prog 4 #[.int .u64 a0, .int .i64 a1, .int .i64 a2, .slice a3 len3 cap3] w fun e w' => e = .returned (.bool true) ∧ Below w.heap.size w w' := by
  obtain ⟨l, rfl, hr, hm, hw, hc⟩ := ReadsInt.ofRowC h3
  have HR := Aside0.mk (Kd.C_of_reads (d := (0 : Int)) (h1 := fun _ => rfl) hr)
  have HC := Aside0.mk hc
  have HBY := Aside0.mk (show ∀ x ∈ l, 0 ≤ x ∧ x < 256 from fun x hx => wfu8 (hw x hx))
  have hv := wfu64 h0
  have HV := Aside0.mk hv
  have HA := Aside0.mk (casketlaw01_awake.calls true w BitL.awake_f)
  have HWD := Aside0.mk (BitL.Width_f a0 hv.1 hv.2)
  have m1 := and63 a1
  have m2 := and63 a2
  have HW := Aside0.mk (show (a1 % 64).toNat < 64 by omega)
  have HV2 := Aside0.mk (show 0 ≤ a0 ∧ a0 ≤ 18446744073709551615 from ⟨hv.1, by omega⟩)
  clear h0 h1 h2 h3 hr hm hw hc
  generalize (a1 % 64).toNat = W at *
  generalize (a2 % 64).toNat = C at *
  obtain ⟨K, hK, hmin, hmin2⟩ : ∃ K : Nat, K ≤ W ∧ (if (W : Int) < (C : Int) then (W : Int) else (C : Int)) = (K : Int) ∧ (if W < C then (W : Int) else (C : Int)) = (K : Int) := by
    by_cases c : W < C
    · exact ⟨W, Nat.le_refl _, by rw [if_pos (by omega)], by rw [if_pos c]⟩
    · exact ⟨C, by omega, by rw [if_neg (by omega)], by rw [if_neg c]⟩
  have HK := Aside0.mk hK
  clear hK hv
  go_enter Try.func4, Try.ntmps4
  go_wp2_with (fail)
  refine HA.out.mono ?_
  rintro e wa ⟨rfl, hb⟩
  have HB := Aside0.mk hb
  clear hb HA
  go_wp2_with (fail)
  refine (bits_Width.calls _ _ _ HWD.out).mono ?_
  rintro e w2 ⟨rfl, ⟨n2, rfl⟩⟩
  have HB2 := Aside0.mk (show Below w.heap.size w (wa.drewN n2) from pw_below_drewN HB.out n2)
  by_cases c1 : W < Lib.bitLen a0.toNat
  · have e1 : decide ((W : Int) < (Lib.bitLen a0.toNat : Int)) = true := decide_eq_true (by omega)
    have e2 : decide (W < Lib.bitLen a0.toNat) = true := decide_eq_true c1
    go_wp2_with (fail)
    go_ret
    exact ⟨rfl, HB2.out⟩
  · have e1 : decide ((W : Int) < (Lib.bitLen a0.toNat : Int)) = false := decide_eq_false (by omega)
    have e2 : decide (W < Lib.bitLen a0.toNat) = false := decide_eq_false c1
    have HBL := Aside0.mk (show Lib.bitLen a0.toNat ≤ W by omega)
    by_cases c2 : 100 < l.length
    · have e3 : decide (100 < (l.length : Int)) = true := decide_eq_true (by omega)
      have e4 : decide (100 < l.length) = true := decide_eq_true c2
      go_wp2_with (fail)
      go_ret
      exact ⟨rfl, HB2.out⟩
    · have e3 : decide (100 < (l.length : Int)) = false := decide_eq_false (by omega)
      have e4 : decide (100 < l.length) = false := decide_eq_false c2
      have HL := Aside0.mk (show l.length ≤ 100 by omega)
      clear c1 c2
      generalize wa.drewN n2 = wb at *
      have HXA := Aside0.mk (OwnW.made (w0 := w) wb.heap.size (MapKept.heap_alloc wb (.cells #[.slice none 0 0, .int .i64 0] 27)).1 HB2.out.size)
      have HXA2 := Aside0.mk (HXA.out.below (below_alloc (Below.refl _ _) (.cells #[.slice none 0 0, .int .i64 0] 27)))
      have HXB := Aside0.mk (OwnW.made (w0 := w) (wb.alloc (.cells #[.slice none 0 0, .int .i64 0] 27)).heap.size (MapKept.heap_alloc (wb.alloc (.cells #[.slice none 0 0, .int .i64 0] 27)) (.cells #[.slice none 0 0, .int .i64 0] 27)).1 (Nat.le_trans HB2.out.size (below_alloc (Below.refl _ _) _).size))
      have hgs : (wb.alloc (.cells #[.slice none 0 0, .int .i64 0] 27)).heap.size = wb.heap.size + 1 := by simp
      rw [hgs] at HXB
      have HB3 := Aside0.mk (below_alloc (below_alloc HB2.out (.cells #[.slice none 0 0, .int .i64 0] 27)) (.cells #[.slice none 0 0, .int .i64 0] 27))
      clear hgs HXA HB m1 m2 hmin hmin2
      go_wp2_with (fail)
      go_loopg [14] l.length (fun kq v14 W' => ∃ (i : Nat) (FA FB : Nat → Prop), v14 = .int .i64 (i : Int) ∧ kq = l.length - i ∧ i ≤ l.length ∧ Aside0 (OwnW w W' wb.heap.size (ahB (l.take i)) FA) ∧ Aside0 (OwnW w W' (wb.heap.size + 1) (ahB (l.take i)) FB) ∧ Aside0 (∀ j, FA j → FB j → False) ∧ Aside0 (Below w.heap.size w W'))
      case atStart => exact ⟨0, _, _, rfl, rfl, Nat.zero_le _, HXA2, HXB, ⟨fun j h1 h2 => by omega⟩, HB3⟩
      case round =>
        clear HXA2 HXB HB3 HB2 e1 e2 e3 e4
        obtain ⟨i, FA, FB, rfl, rfl, hi, HOA, HOB, HD, HB⟩ := hrel
        have HLA := Aside0.mk (show (ahB (l.take i)).length ≤ 300 from by rw [ahB_length, List.length_take]; have := HL.out; omega)
        by_cases hlt : i < l.length
        · have c3 : decide ((i : Int) < (l.length : Int)) = true := decide_eq_true (by omega)
          have c4 : decide (i < l.length) = true := decide_eq_true hlt
          obtain ⟨ad2, e2, hx⟩ := Kd.at_int HR.out (i : Int) (by omega) (by omega)
          subst e2
          rw [Int.toNat_natCast] at hx
          have HX := Aside0.mk hx
          replace hx := (HB.out.cell (World.block_lt_of_cell? w _ hx)).trans hx
          have hx0 := HBY.out _ (rd_mem l (i : Int) (by omega) (by omega))
          have h7 := and7 _ hx0
          have hwu : IntKind.u64.wrap (rd l (i : Int) % 8) = rd l (i : Int) % 8 := by rw [wrapu64]; omega
          have HBT := Aside0.mk (ahB_take l i hlt)
          have HN := Aside0.mk (show 0 ≤ rd l (i : Int) % 8 ∧ rd l (i : Int) % 8 ≤ 18446744073709551615 ∧ Lib.bitLen (rd l (i : Int) % 8).toNat ≤ 3 from ⟨by omega, by omega, Lib.bitLen_le _ _ (by decide) (by omega)⟩)
          have HW1 := Aside0.mk (show wrap64 ((i : Int) + 1) = ((i + 1 : Nat) : Int) from by have := HL.out; rw [wrap64_id (by omega) (by omega)]; omega)
          clear hx0
          go_wp2_with (fail)
          refine (own_put w _ _ _ _ (rd l (i : Int) % 8) 3 HOA.out HB.out HN.out.1 HN.out.2.1 (by decide) HN.out.2.2 (by have := HLA.out; omega)).mono ?_
          rintro e w5 ⟨rfl, ⟨F5, hO5, hF5⟩, hb5, hk5⟩
          rw [← HBT.out] at hO5
          have HO5 := Aside0.mk hO5
          have HB5 := Aside0.mk hb5
          have HOB5 := Aside0.mk (HOB.out.kept hk5 (fun j h1 h2 => HD.out j h2 h1))
          have HD5 := Aside0.mk (show ∀ j, F5 j → FB j → False from fun j h1 h2 => by
            rcases hF5 j h1 with h | h
            · exact HD.out j h h2
            · have := HOB.out.lt j h2
              omega)
          replace hx := (hb5.cell (World.block_lt_of_cell? w _ HX.out)).trans HX.out
          clear hO5 hb5 hk5 hF5 HOA HOB HD HB
          go_wp2_with (fail)
          refine (own_put w _ _ _ _ (rd l (i : Int) % 8) 3 HOB5.out HB5.out HN.out.1 HN.out.2.1 (by decide) HN.out.2.2 (by have := HLA.out; omega)).mono ?_
          rintro e w6 ⟨rfl, ⟨F6, hO6, hF6⟩, hb6, hk6⟩
          rw [← HBT.out] at hO6
          have HO6 := Aside0.mk hO6
          have HB6 := Aside0.mk hb6
          have HOA6 := Aside0.mk (HO5.out.kept hk6 (fun j h1 h2 => HD5.out j h1 h2))
          have HD6 := Aside0.mk (show ∀ j, F5 j → F6 j → False from fun j h1 h2 => by
            rcases hF6 j h2 with h | h
            · exact HD5.out j h1 h
            · have := HO5.out.lt j h1
              omega)
          clear hO6 hb6 hk6 hF6 HOB5 HO5 HD5 HB5
          go_wp2_with (fail)
          go_roundg (l.length - (i + 1))
          case measure => exact (by have := HL.out; omega)
          case rel =>
            (try rw [HW1.out])
            exact ⟨i + 1, F5, F6, rfl, rfl, hlt, HOA6, HO6, HD6, HB6⟩
        · have c3 : decide ((i : Int) < (l.length : Int)) = false := decide_eq_false (by omega)
          have c4 : decide (i < l.length) = false := decide_eq_false hlt
          obtain rfl : i = l.length := by omega
          rw [List.take_length] at HOA HOB HLA
          go_wp2_with (fail)
          refine (own_put w _ _ _ _ a0 W HOA.out HB.out HV2.out.1 HV2.out.2 (by have := HW.out; omega) HBL.out (by have := HLA.out; omega)).mono ?_
          rintro e w5 ⟨rfl, ⟨F5, hO5, hF5⟩, hb5, hk5⟩
          have HO5 := Aside0.mk hO5
          have HB5 := Aside0.mk hb5
          have HOB5 := Aside0.mk (HOB.out.kept hk5 (fun j h1 h2 => HD.out j h2 h1))
          have HD5 := Aside0.mk (show ∀ j, F5 j → FB j → False from fun j h1 h2 => by
            rcases hF5 j h1 with h | h
            · exact HD.out j h h2
            · have := HOB.out.lt j h2
              omega)
          clear hO5 hb5 hk5 hF5 HOA HOB HD HB
          go_wp2_with (fail)
          have eK : min (IntKind.u64.wrap (K : Int)).toNat 64 = K := by
            have := HK.out
            have := HW.out
            rw [wrapu64]
            omega
          have eW : wrap64 ((W : Int) - (K : Int)) = ((W - K : Nat) : Int) := by
            have := HK.out
            have := HW.out
            rw [wrap64_id (by omega) (by omega)]
            omega
          have hpow : a0.toNat < 2 ^ W := bl_lt _ _ (by have := HV2.out; omega) HBL.out
          have hsp : (2 : Nat) ^ W = 2 ^ (W - K) * 2 ^ K := by rw [← Nat.pow_add, Nat.sub_add_cancel HK.out]
          have hp0 : 0 < (2 : Nat) ^ K := Nat.two_pow_pos K
          have hdiv : a0 / 2 ^ K = ((a0.toNat / 2 ^ K : Nat) : Int) := by
            rw [Int.natCast_ediv, Int.toNat_of_nonneg HV2.out.1]
            rfl
          have hd1 : a0.toNat / 2 ^ K < 2 ^ (W - K) := by
            rw [Nat.div_lt_iff_lt_mul hp0, ← hsp]
            exact hpow
          have hd2 : a0.toNat / 2 ^ K ≤ a0.toNat := Nat.div_le_self _ _
          have HDV := Aside0.mk (show 0 ≤ a0 / 2 ^ K ∧ a0 / 2 ^ K ≤ 18446744073709551615 ∧ Lib.bitLen (a0 / 2 ^ K).toNat ≤ W - K from by
            rw [hdiv, Int.toNat_natCast]
            have := HV2.out
            exact ⟨Int.natCast_nonneg _, Int.le_trans (Int.ofNat_le.2 hd2) (by omega), Lib.bitLen_le _ _ (by have := HW.out; omega) hd1⟩)
          have hm1 : a0 % 2 ^ K = ((a0.toNat % 2 ^ K : Nat) : Int) := by
            rw [Int.natCast_emod, Int.toNat_of_nonneg HV2.out.1]
            rfl
          have hm2 : a0.toNat % 2 ^ K < 2 ^ K := Nat.mod_lt _ hp0
          have hm3 : a0.toNat % 2 ^ K ≤ a0.toNat := Nat.mod_le _ _
          have HMV := Aside0.mk (show 0 ≤ a0 % 2 ^ K ∧ a0 % 2 ^ K ≤ 18446744073709551615 ∧ Lib.bitLen (a0 % 2 ^ K).toNat ≤ K from by
            rw [hm1, Int.toNat_natCast]
            have := HV2.out
            exact ⟨Int.natCast_nonneg _, Int.le_trans (Int.ofNat_le.2 hm3) (by omega), Lib.bitLen_le _ _ (by have := HW.out; have := HK.out; omega) hm2⟩)
          have HSP := Aside0.mk (bitsOf_parts W K a0 HK.out)
          have HMK := Aside0.mk (k64_mask K (by have := HW.out; have := HK.out; omega) a0 HV2.out.1 (by have := HV2.out; omega))
          clear hpow hsp hp0 hdiv hd1 hd2 hm1 hm2 hm3
          rw [eK, eW]
          refine (own_put w _ _ _ _ (a0 / 2 ^ K) (W - K) HOB5.out HB5.out HDV.out.1 HDV.out.2.1 (by have := HW.out; omega) HDV.out.2.2 (by have := HLA.out; omega)).mono ?_
          rintro e w6 ⟨rfl, ⟨F6, hO6, hF6⟩, hb6, hk6⟩
          have HO6 := Aside0.mk hO6
          have HB6 := Aside0.mk hb6
          have HOA6 := Aside0.mk (HO5.out.kept hk6 (fun j h1 h2 => HD5.out j h1 h2))
          have HD6 := Aside0.mk (show ∀ j, F5 j → F6 j → False from fun j h1 h2 => by
            rcases hF6 j h2 with h | h
            · exact HD5.out j h1 h
            · have := HO5.out.lt j h1
              omega)
          clear hO6 hb6 hk6 hF6 HOB5 HO5 HD5 HB5
          go_wp2_with (fail)
          have eM : IntKind.u64.wrap (IntKind.u64.wrap (2 ^ K) - 1) = 2 ^ K - 1 := by
            have h1 : (2 : Nat) ^ K ≤ 2 ^ 63 := Nat.pow_le_pow_right (by decide) (by have := HW.out; have := HK.out; omega)
            have h2 : (2 : Int) ^ K = ((2 ^ K : Nat) : Int) := by simp
            have h3 := Nat.two_pow_pos K
            rw [h2]
            generalize 2 ^ K = m at *
            rw [wrapu64, wrapu64]
            omega
          rw [eM, HMK.out]
          refine (own_put w _ _ _ _ (a0 % 2 ^ K) K HO6.out HB6.out HMV.out.1 HMV.out.2.1 (by have := HW.out; have := HK.out; omega) HMV.out.2.2 (by rw [List.length_append, bitsOf_length]; have := HLA.out; have := HW.out; omega)).mono ?_
          rintro e w7 ⟨rfl, ⟨F7, hO7, hF7⟩, hb7, hk7⟩
          rw [List.append_assoc, ← HSP.out] at hO7
          have HO7 := Aside0.mk hO7
          have HB7 := Aside0.mk hb7
          have HOA7 := Aside0.mk (HOA6.out.kept hk7 (fun j h1 h2 => HD6.out j h1 h2))
          clear hO7 hb7 hk7 hF7 HO6 HB6 HOA6 HD6 eM eK eW
          have HLL := Aside0.mk (show (ahB l ++ bitsOf W a0).length ≤ 400 from by rw [List.length_append, bitsOf_length]; have := HLA.out; have := HW.out; omega)
          have HPL := Aside0.mk (pack_length (ahB l ++ bitsOf W a0))
          generalize ahB l ++ bitsOf W a0 = k at *
          obtain ⟨kf, hkf⟩ := (Same1_self (pack k) (by have := HPL.out; have := HLL.out; omega)).get
          have HSM := Aside0.mk hkf
          clear hkf
          go_wp2_with (fail)
          refine (own_len w _ _ _ _ HOA7.out).mono ?_
          rintro e w8 ⟨rfl, rfl⟩
          go_wp2_with (fail)
          refine (own_len w _ _ _ _ HO7.out).mono ?_
          rintro e w8 ⟨rfl, rfl⟩
          go_wp2_with (fail)
          refine (own_bytes w _ _ _ _ HOA7.out (by have := HLL.out; omega)).mono ?_
          rintro e w8 ⟨v8, rfl, ho, hb⟩
          have HX8 := Aside0.mk ho
          have HO8 := Aside0.mk (HO7.out.below hb)
          have HB8 := Aside0.mk (below_step HB7.out hb)
          clear ho hb HOA7 HO7 HB7
          go_wp2_with (fail)
          refine (own_bytes w _ _ _ _ HO8.out (by have := HLL.out; omega)).mono ?_
          rintro e w9 ⟨v9, rfl, ho, hb⟩
          have HX9 := Aside0.mk ho
          have HX8' := Aside0.mk (Kd.R_below HX8.out hb)
          have HB9 := Aside0.mk (below_step HB8.out hb)
          clear ho hb HO8 HB8 HX8
          obtain ⟨A8, q8, e8⟩ := Kd.R_slice HX8'.out
          subst e8
          obtain ⟨A9, q9, e9⟩ := Kd.R_slice HX9.out
          subst e9
          go_wp2_with (fail)
          refine (casketref01_Same.calls kf _ _ (pack k) _ _ (pack k) true _ (Kd.R_reads' HX8'.out).2.2 (Kd.R_reads' HX8'.out).2.1 (Kd.R_reads' HX9.out).2.2 (Kd.R_reads' HX9.out).2.1 HSM.out).mono ?_
          rintro e w10 ⟨rfl, ⟨n10, rfl⟩⟩
          go_wp2_with (fail)
          go_ret
          exact ⟨rfl, pw_below_drewN HB9.out _⟩
end Go.Proofs.Ytjpepmnkiicgoaa.P
