/- The law BitsWhole: the walk by hand (two readers and a writer). -/
import Derived.Test.YtjpepmnkiicgoaaPx3
import Derived.Test.YtjpepmnkiicgoaaPx1
import Derived.Test.YtjpepmnkiicgoaaBitL
import Derived.Test.YtjpepmnkiicgoaaOwn
import Derived.Test.YtjpepmnkiicgoaaBits
import Derived.OneCell
import Derived.RegionTactic
import Derived.BigRegion
import Derived.Outline
import Derived.Deep.QuietTactic
import Derived.BigQuiet
namespace Go.Proofs.Ytjpepmnkiicgoaa.P
open Go.RowKit Go.Proofs.Ytjpepmnkiicgoaa.Kit Go.Proofs.Ytjpepmnkiicgoaa.Var Go.Proofs.YtjpepmnkiicgoaaW.PrintWords Go.Proofs.YtjpepmnkiicgoaaW.PrintLast Go.Proofs.YtjpepmnkiicgoaaW.PrintMore
attribute [local go_sem] max2_int min2_int max_two min_two
set_option linter.unusedVariables false
set_option linter.unusedSimpArgs false

theorem unpack_at (l : List Int) (i : Nat) (h : i < l.length) : unpack (l.drop i) = bitsOf 8 (rd l (i : Int)) ++ unpack (l.drop (i + 1)) := by
  rw [List.drop_eq_getElem_cons h, unpack_cons, rd_nat, List.getD_eq_getElem?_getD, List.getElem?_eq_getElem h, Option.getD_some]
theorem unpack_to (l : List Int) (i : Nat) (h : i < l.length) : unpack (l.take (i + 1)) = unpack (l.take i) ++ bitsOf 8 (rd l (i : Int)) := by
  rw [List.take_add_one, List.getElem?_eq_getElem h, Option.toList_some, unpack_append, rd_nat, List.getD_eq_getElem?_getD, List.getElem?_eq_getElem h, Option.getD_some, unpack_cons]
  simp [unpack]
/-- What the first i bytes are as a number. -/
def wantV (l : List Int) (i : Nat) : Int := valL 0 (unpack (l.take i))
theorem wantV_bd (l : List Int) (i : Nat) (h : i ≤ 8) : 0 ≤ wantV l i ∧ wantV l i < 18446744073709551616 := by
  have h1 := valL_bd (unpack_01 (l.take i))
  have h2 : (2 : Int) ^ (unpack (l.take i)).length ≤ 2 ^ 64 := by
    have h3 : (unpack (l.take i)).length ≤ 64 := by
      rw [unpack_length, List.length_take]
      omega
    have := Nat.pow_le_pow_right (show 0 < 2 by decide) h3
    exact_mod_cast this
  have h4 : (2 : Int) ^ 64 = 18446744073709551616 := by decide
  unfold wantV
  omega
theorem wantV_succ (l : List Int) (i : Nat) (h : i < l.length) (hx : 0 ≤ rd l (i : Int) ∧ rd l (i : Int) < 256) : wantV l (i + 1) = wantV l i * 256 + rd l (i : Int) := by
  unfold wantV
  rw [unpack_to l i h, valL_append, valL_bits 8]
  rw [show (2 : Int) ^ 8 = 256 by decide]
  omega
theorem take_unpack (l : List Int) (i : Nat) (h : i ≤ l.length) : (unpack l).take (8 * i) = unpack (l.take i) := by
  have e := unpack_append (l.take i) (l.drop i)
  rw [List.take_append_drop] at e
  rw [e]
  exact List.take_left' (by rw [unpack_length, List.length_take]; omega)
/-- Nothing plain is left to show. -/
def casketlaw01_BitsWhole.Pure : Prop := True
set_option maxHeartbeats 1000000 in
theorem casketlaw01_BitsWhole.walk (P : casketlaw01_BitsWhole.Pure) (a0 : Option Addr) (len0 cap0 : Nat) (z0 : List Int) (w : World)
    (h0 : (a0 = none ∧ len0 = 0 ∧ cap0 = 0 ∧ z0 = []) ∨ ∃ x, a0 = some x ∧ len0 ≤ cap0 ∧ cap0 ≤ maxLen ∧ z0.length = cap0 ∧ (∀ i, i < z0.length → w.cell? (x.add i) = some (.int .u8 (z0.getD i 0))) ∧ ∀ n ∈ z0, (Lit.int .u8 n).wf = true) (y0 : len0 * 1 ≤ 140737488351232) :
    Calls Try.prog 5 #[.slice a0 len0 cap0] w fun e w' => e = .returned (.bool true) ∧ Below w.heap.size w w' := by
  obtain ⟨l, rfl, hr, hm, hw, hc⟩ := ReadsInt.ofRowC h0
  have HR := Aside0.mk (Kd.C_of_reads (d := (0 : Int)) (h1 := fun _ => rfl) hr)
  have HC := Aside0.mk hc
  have HBY := Aside0.mk (show ∀ x ∈ l, 0 ≤ x ∧ x < 256 from fun x hx => wfu8 (hw x hx))
  have HA := Aside0.mk (casketlaw01_awake.calls true w BitL.awake_f)
  clear h0 hr hm hw hc
  by_cases c2 : 300 < l.length
  · have e3 : decide (300 < (l.length : Int)) = true := decide_eq_true (by omega)
    have e4 : decide (300 < l.length) = true := decide_eq_true c2
    go_enter Try.func5, Try.ntmps5
    go_wp2_with (fail)
    refine HA.out.mono ?_
    rintro e wa ⟨rfl, hb⟩
    have HB := Aside0.mk hb
    clear hb HA
    go_wp2_with (fail)
    go_ret
    exact ⟨rfl, HB.out⟩
  · have e3 : decide (300 < (l.length : Int)) = false := decide_eq_false (by omega)
    have e4 : decide (300 < l.length) = false := decide_eq_false c2
    have HL := Aside0.mk (show l.length ≤ 300 by omega)
    clear c2
    go_enter Try.func5, Try.ntmps5
    go_wp2_with (fail)
    refine HA.out.mono ?_
    rintro e wa ⟨rfl, hb⟩
    have HB := Aside0.mk hb
    clear hb HA
    go_wp2_with (fail)
    refine (own_new w _ _ _ l HB.out (Kd.C_below HR.out HB.out) HC.out (by have := HL.out; omega) HBY.out).mono ?_
    rintro e wb ⟨gr, rfl, ⟨FR, hR, hFR⟩, hb1, hb2⟩
    have HRD := Aside0.mk hR
    have HB2 := Aside0.mk hb1
    clear hFR hb1 hb2 HB hR
    have HXA := Aside0.mk (OwnW.made (w0 := w) wb.heap.size (MapKept.heap_alloc wb (.cells #[.slice none 0 0, .int .i64 0] 27)).1 HB2.out.size)
    have HRD2 := Aside0.mk (HRD.out.below (below_alloc (Below.refl _ _) (.cells #[.slice none 0 0, .int .i64 0] 27)))
    have HDS := Aside0.mk (show ∀ j, FR j → j = wb.heap.size → False from fun j h1 h2 => by
      obtain ⟨b, n, hh⟩ := HRD.out
      have := hh.2.2.2.2.2.2 j h1
      omega)
    have HB3 := Aside0.mk (below_alloc HB2.out (.cells #[.slice none 0 0, .int .i64 0] 27))
    clear HRD HB2 e3 e4
    go_wp2_with (fail)
    go_loopg [6] l.length (fun kq v6 W' => ∃ (i : Nat) (FA FB : Nat → Prop), v6 = .int .i64 (i : Int) ∧ kq = l.length - i ∧ i ≤ l.length ∧ Aside0 (OwnR w W' gr (unpack (l.drop i)) FA) ∧ Aside0 (OwnW w W' wb.heap.size (unpack (l.take i)) FB) ∧ Aside0 (∀ j, FA j → FB j → False) ∧ Aside0 (Below w.heap.size w W'))
    case atStart => exact ⟨0, _, _, rfl, rfl, Nat.zero_le _, HRD2, HXA, HDS, HB3⟩
    case round =>
      clear HRD2 HXA HDS HB3
      obtain ⟨i, FA, FB, rfl, rfl, hi, HOR, HOW, HD, HB⟩ := hrel
      by_cases hlt : i < l.length
      · have c3 : decide ((i : Int) < (l.length : Int)) = true := decide_eq_true (by omega)
        have c4 : decide (i < l.length) = true := decide_eq_true hlt
        obtain ⟨ad2, e2, hx⟩ := Kd.at_int HR.out (i : Int) (by omega) (by omega)
        subst e2
        rw [Int.toNat_natCast] at hx
        have hx0 := HBY.out _ (rd_mem l (i : Int) (by omega) (by omega))
        have HX0 := Aside0.mk hx0
        have hwu : IntKind.u64.wrap (rd l (i : Int)) = rd l (i : Int) := by rw [wrapu64]; omega
        have HBT := Aside0.mk (unpack_to l i hlt)
        have HLT := Aside0.mk (show (unpack (l.take i)).length ≤ 2400 from by rw [unpack_length, List.length_take]; have := HL.out; omega)
        rw [unpack_at l i hlt] at HOR
        have hbl : (bitsOf 8 (rd l (i : Int))).length = 8 := bitsOf_length 8 _
        have hvl : valL 0 (bitsOf 8 (rd l (i : Int))) = rd l (i : Int) := valL_of_bits hx0.1 (by rw [show (2 : Int) ^ 8 = 256 by decide]; exact hx0.2)
        have HG := Aside0.mk (own_get w _ gr _ FA 8 HOR.out HB.out (by decide) (by rw [List.length_append, hbl]; omega))
        rw [List.take_left' hbl, List.drop_left' hbl, hvl] at HG
        have HW1 := Aside0.mk (show wrap64 ((i : Int) + 1) = ((i + 1 : Nat) : Int) from by have := HL.out; rw [wrap64_id (by omega) (by omega)]; omega)
        clear hx0 hbl hvl
        go_wp2_with (fail)
        refine HG.out.mono ?_
        rintro e w5 ⟨rfl, hR5, hb5, hk5⟩
        have HR5 := Aside0.mk hR5
        have HB5 := Aside0.mk hb5
        have HF := Aside0.mk (show FA gr from by obtain ⟨b, n, hh⟩ := hR5; exact hh.2.2.2.2.2.1)
        have HOW5 := Aside0.mk (HOW.out.kept hk5 (fun j h1 h2 => HD.out j (by subst h2; exact HF.out) h1))
        replace hx := (hb5.cell (World.block_lt_of_cell? w _ hx)).trans hx
        clear hR5 hb5 hk5 HG HOR HOW HB
        go_wp2_with (fail)
        refine (own_put w _ _ _ _ (rd l (i : Int)) 8 HOW5.out HB5.out HX0.out.1 (by have := HX0.out; omega) (by decide) (Lib.bitLen_le _ _ (by decide) (by have := HX0.out; omega)) (by have := HLT.out; omega)).mono ?_
        rintro e w6 ⟨rfl, ⟨F6, hO6, hF6⟩, hb6, hk6⟩
        rw [← HBT.out] at hO6
        have HO6 := Aside0.mk hO6
        have HB6 := Aside0.mk hb6
        have HR6 := Aside0.mk (HR5.out.kept hk6 (fun j h1 h2 => HD.out j h1 h2))
        have HD6 := Aside0.mk (show ∀ j, FA j → F6 j → False from fun j h1 h2 => by
          rcases hF6 j h2 with h | h
          · exact HD.out j h1 h
          · obtain ⟨b, n, hh⟩ := HR5.out
            have := hh.2.2.2.2.2.2 j h1
            omega)
        clear hO6 hb6 hk6 hF6 HOW5 HR5 HB5
        go_wp2_with (fail)
        go_roundg (l.length - (i + 1))
        case measure => exact (by have := HL.out; omega)
        case rel =>
          (try rw [HW1.out])
          exact ⟨i + 1, FA, F6, rfl, rfl, hlt, HR6, HO6, HD6, HB6⟩
      · have c3 : decide ((i : Int) < (l.length : Int)) = false := decide_eq_false (by omega)
        have c4 : decide (i < l.length) = false := decide_eq_false hlt
        obtain rfl : i = l.length := by omega
        rw [List.take_length] at HOW
        rw [List.drop_length, show unpack [] = [] from rfl] at HOR
        clear hlt hi
        go_wp2_with (fail)
        refine (own_get_short w _ gr [] FA 1 HOR.out (by decide) (by decide)).mono ?_
        rintro e w5 ⟨rfl, ⟨n5, rfl⟩⟩
        have HOR5 := Aside0.mk (HOR.out.drewN n5)
        have HOW5 := Aside0.mk (HOW.out.drewN n5)
        have HB5 := Aside0.mk (pw_below_drewN HB.out n5)
        generalize wr.drewN n5 = wc at *
        clear HOR HOW HB
        obtain ⟨K, hK, hK2, hmin, hmin2⟩ : ∃ K : Nat, K ≤ 8 ∧ K ≤ l.length ∧ (if (8 : Int) < (l.length : Int) then (8 : Int) else (l.length : Int)) = (K : Int) ∧ (if 8 < l.length then (8 : Int) else (l.length : Int)) = (K : Int) := by
          by_cases c : 8 < l.length
          · exact ⟨8, Nat.le_refl _, by omega, by rw [if_pos (by omega)]; rfl, by rw [if_pos c]; rfl⟩
          · exact ⟨l.length, by omega, Nat.le_refl _, by rw [if_neg (by omega)], by rw [if_neg c]⟩
        have HK := Aside0.mk (show K ≤ 8 ∧ K ≤ l.length from ⟨hK, hK2⟩)
        clear hK hK2
        go_wp2_with (fail)
        refine (own_new w _ _ _ l HB5.out (Kd.C_below HR.out HB5.out) HC.out (by have := HL.out; omega) HBY.out).mono ?_
        rintro e w6 ⟨g3, rfl, ⟨F3, hR, hF3⟩, hb1, hb2⟩
        have HR6 := Aside0.mk hR
        have HB6 := Aside0.mk hb1
        have HOR6 := Aside0.mk (HOR5.out.below hb2)
        have HOW6 := Aside0.mk (HOW5.out.below hb2)
        have HD1 := Aside0.mk (show ∀ j, FA j → F3 j → False from fun j h1 h2 => by
          obtain ⟨b, n, hh⟩ := HOR5.out
          have := hh.2.2.2.2.2.2 j h1
          have := hF3 j h2
          omega)
        have HD2 := Aside0.mk (show ∀ j, FB j → F3 j → False from fun j h1 h2 => by
          have := HOW5.out.lt j h1
          have := hF3 j h2
          omega)
        clear hR hb1 hb2 hF3 HOR5 HOW5 HB5
        have HG := Aside0.mk (own_get w _ g3 _ F3 (8 * K) HR6.out HB6.out (by have := HK.out; omega) (by rw [unpack_length]; have := HK.out; omega))
        rw [take_unpack l K HK.out.2] at HG
        have e8 : wrap64 (8 * (K : Int)) = ((8 * K : Nat) : Int) := by
          have := HK.out
          rw [wrap64_id (by omega) (by omega)]
          omega
        go_wp2_with (fail)
        (try rw [e8])
        refine HG.out.mono ?_
        rintro e w7 ⟨rfl, hR7, hb7, hk7⟩
        have HF := Aside0.mk (show F3 g3 from by obtain ⟨b, n, hh⟩ := hR7; exact hh.2.2.2.2.2.1)
        have HB7 := Aside0.mk hb7
        have HOR7 := Aside0.mk (HOR6.out.kept hk7 (fun j h1 h2 => HD1.out j h1 (by subst h2; exact HF.out)))
        have HOW7 := Aside0.mk (HOW6.out.kept hk7 (fun j h1 h2 => HD2.out j h1 (by subst h2; exact HF.out)))
        clear hR7 hb7 hk7 HG HOR6 HOW6 HR6 HB6 HD1 HD2 HF e8 hmin hmin2
        go_wp2_with (fail)
        go_loopg [14, 15] K (fun kq v14 v15 W' => ∃ i : Nat, v14 = .int .u64 (wantV l i) ∧ v15 = .int .i64 (i : Int) ∧ kq = K - i ∧ i ≤ K ∧ w7 = W')
        case atStart => exact ⟨0, rfl, rfl, rfl, Nat.zero_le _, rfl⟩
        case round =>
          obtain ⟨i, rfl, rfl, rfl, hi, rfl⟩ := hrel
          by_cases hlt : i < K
          · have c5 : decide ((i : Int) < (K : Int)) = true := decide_eq_true (by omega)
            have c6 : decide (i < K) = true := decide_eq_true hlt
            have c7 : ((i : Int) < (l.length : Int)) = True := eq_true (by have := HK.out; omega)
            have c8 : (i < l.length) = True := eq_true (by have := HK.out; omega)
            have c9 : (0 ≤ (i : Int)) = True := eq_true (by omega)
            obtain ⟨ad2, e2, hx⟩ := Kd.at_int HR.out (i : Int) (by omega) (by have := HK.out; omega)
            subst e2
            rw [Int.toNat_natCast] at hx
            replace hx := (HB7.out.cell (World.block_lt_of_cell? w _ hx)).trans hx
            have hx0 := HBY.out _ (rd_mem l (i : Int) (by omega) (by have := HK.out; omega))
            have hb1 := wantV_bd l i (by have := HK.out; omega)
            have hb2 := wantV_bd l (i + 1) (by have := HK.out; omega)
            have hs := wantV_succ l i (by have := HK.out; omega) hx0
            have HST := Aside0.mk (show IntKind.u64.wrap (IntKind.u64.wrap (wantV l i * 256) + IntKind.u64.wrap (rd l (i : Int))) = wantV l (i + 1) from by
              rw [wrapu64, wrapu64, wrapu64, hs]
              rw [hs] at hb2
              omega)
            have HW1 := Aside0.mk (show wrap64 ((i : Int) + 1) = ((i + 1 : Nat) : Int) from by have := HK.out; rw [wrap64_id (by omega) (by omega)]; omega)
            clear hx0 hb1 hb2 hs
            go_wp2_with (fail)
            go_roundg (K - (i + 1))
            case measure => exact (by have := HK.out; omega)
            case rel =>
              (try rw [HW1.out])
              (try rw [HST.out])
              exact ⟨i + 1, rfl, rfl, rfl, hlt, rfl⟩
          · have c5 : decide ((i : Int) < (K : Int)) = false := decide_eq_false (by omega)
            have c6 : decide (i < K) = false := decide_eq_false hlt
            obtain rfl : i = K := by omega
            have HPK := Aside0.mk (pack_unpack HBY.out)
            obtain ⟨kf, hkf⟩ := (Same1_self l (by have := HL.out; omega)).get
            have HSM := Aside0.mk hkf
            clear hkf hlt hi
            go_wp2_with (fail)
            refine (own_left w _ gr [] FA HOR7.out).mono ?_
            rintro e w8 ⟨rfl, ⟨n8, rfl⟩⟩
            have HB8 := Aside0.mk (pw_below_drewN HB7.out n8)
            have HOW8 := Aside0.mk (HOW7.out.drewN n8)
            generalize w7.drewN n8 = wd at *
            clear HB7 HOW7 HOR7
            go_wp2_with (fail)
            refine (own_bytes w _ _ _ _ HOW8.out (by rw [unpack_length]; have := HL.out; omega)).mono ?_
            rintro e w9 ⟨v9, rfl, ho, hb⟩
            rw [HPK.out] at ho
            have HX9 := Aside0.mk ho
            have HB9 := Aside0.mk (below_step HB8.out hb)
            clear ho hb HOW8 HB8
            obtain ⟨A9, q9, e9⟩ := Kd.R_slice HX9.out
            subst e9
            go_wp2_with (fail)
            refine (casketref01_Same.calls kf _ _ l _ _ l true _ (Kd.R_reads' HX9.out).2.2 (Kd.R_reads' HX9.out).2.1 (Kd.C_below HR.out HB9.out) HC.out HSM.out).mono ?_
            rintro e w10 ⟨rfl, ⟨n10, rfl⟩⟩
            go_wp2_with (fail)
            go_ret
            refine ⟨?_, pw_below_drewN HB9.out _⟩
            show Ending.returned (.bool (valL 0 (unpack (l.take i)) == wantV l i)) = _
            rw [show wantV l i = valL 0 (unpack (l.take i)) from rfl, beq_self_eq_true]
end Go.Proofs.Ytjpepmnkiicgoaa.P
