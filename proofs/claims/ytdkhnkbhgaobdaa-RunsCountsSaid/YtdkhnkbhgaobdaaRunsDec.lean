/- runs.Decode as a pure function, and its contract. -/
import Derived.Test.YtdkhnkbhgaobdaaPx1
import Derived.Test.YtdkhnkbhgaobdaaCurK
import Derived.OneCell
import Derived.RegionTactic
import Derived.BigRegion
import Derived.Outline
import Derived.Deep.QuietTactic
import Derived.BigQuiet
namespace Go.Proofs.Ytdkhnkbhgaobdaa.P
open Go.RowKit Go.Proofs.Ytdkhnkbhgaobdaa.Kit Go.Proofs.Ytdkhnkbhgaobdaa.Var Go.Proofs.YtdkhnkbhgaobdaaW.PrintWords Go.Proofs.YtdkhnkbhgaobdaaW.PrintLast Go.Proofs.YtdkhnkbhgaobdaaW.PrintMore
attribute [local go_sem] max2_int min2_int max_two min_two max_three min_three max_four min_four
set_option linter.unusedVariables false
set_option linter.unusedSimpArgs false

def rdecL : Nat → Nat → List Int → List Int → List Int × Int × List Int
  | 0, _, b, out => (out, 0, b)
  | d + 1, n, b, out =>
    if n ≤ out.length then (out, 0, b)
    else if (cVarint b).2.2 ≠ 0 then (out, (cVarint b).2.2, (cVarint b).2.1)
    else if (cVarint (cVarint b).2.1).2.2 ≠ 0 then (out, (cVarint (cVarint b).2.1).2.2, (cVarint (cVarint b).2.1).2.1)
    else if ((n - out.length : Nat) : Int) ≤ (cVarint (cVarint b).2.1).1 ∨ (0 < out.length ∧ rd out ((out.length - 1 : Nat) : Int) = (cVarint b).1) then (out, 3, (cVarint (cVarint b).2.1).2.1)
    else rdecL d n (cVarint (cVarint b).2.1).2.1 (out ++ List.replicate ((cVarint (cVarint b).2.1).1.toNat + 1) (cVarint b).1)
def rfin (r : List Int × Int × List Int) : List Int × Int := if r.2.1 ≠ 0 then ([], r.2.1) else if 0 < r.2.2.length then ([], 3) else (r.1, 0)
theorem rfin_err (out b : List Int) (e : Int) (h : e ≠ 0) : rfin (out, e, b) = ([], e) := if_pos h
def rdec (b : List Int) (n : Int) : List Int × Int :=
  if n < 0 ∨ 65536 < n then ([], 1)
  else rfin (rdecL n.toNat n.toNat b [])
def runs_Decode.f (b : List Int) (n : Int) : Option (List Int × Int) := if (∀ x ∈ b, 0 ≤ x ∧ x < 256) ∧ b.length < 140737488355328 then some (rdec b n) else none
theorem cVarint_facts (b : List Int) (hb : Bytes b) (hl : b.length < 140737488355328) : 0 ≤ (cVarint b).1 ∧ (cVarint b).1 < 18446744073709551616 ∧ Bytes (cVarint b).2.1 ∧ (cVarint b).2.1.length < 140737488355328 := by
  obtain ⟨h0, h1, h2, h3⟩ := vread_n b hb
  refine ⟨h2, h3, hb.drop _, ?_⟩
  have : (cVarint b).2.1.length = b.length - (vread b 0 0).2.1.toNat := List.length_drop
  omega
theorem rdec_facts (m l : Nat) (k : Int) (hm : m ≤ 65536) (hl : l < m) (h0 : 0 ≤ k) (h1 : k < 18446744073709551616) : wrap64 ((m : Int) - (l : Int)) = ((m - l : Nat) : Int) ∧ IntKind.u64.wrap ((m - l : Nat) : Int) = ((m - l : Nat) : Int) ∧ wrap64 ((l : Int) - 1) = ((l : Int) - 1) ∧ (k < ((m - l : Nat) : Int) → IntKind.u64.wrap (k + 1) = k + 1) ∧ (k < ((m - l : Nat) : Int) → k < 65536) := by
  obtain ⟨d, hd⟩ : ∃ d : Nat, d = m - l := ⟨_, rfl⟩
  have e : (m : Int) - (l : Int) = (d : Int) := by omega
  have hd2 : d ≤ 65536 := by omega
  have hl2 : l < 65536 := by omega
  rw [← hd, e]
  clear e hd hl hm
  refine ⟨wrap64_id (by omega) (by omega), k64_id _ (by omega) (by omega), wrap64_id (by omega) (by omega), fun h => k64_id _ (by omega) (by omega), fun h => by omega⟩
theorem Varint_at (w0 W : World) (g : Nat) (b b1 : List Int) (v e1 : Int) (hv : cVarint b = (v, b1, e1)) (h : Cu W w0.heap.size g b) (hB : Below w0.heap.size w0 W) (hb : b.length < 140737488355328) (hby : Bytes b) :
    Calls Try.prog 19 #[.pointer (some ⟨g, 0, none⟩)] W fun e W' => e = .returned (.tuple #[.int .u64 v, .int .i64 e1]) ∧ CuP w0 W W' g b1 := by
  have := Varint_any w0 W g b h hB hb hby
  rw [hv] at this
  exact this
theorem runs_Decode.calls_any (b : List Int) (n : Int) (A0 : Option Addr) (c0 : Nat) (w : World) (hr0 : Kd.C (Kd.int .u8) w A0 b.length b) (hc0 : b.length ≤ c0) (hby : Bytes b) (hbl : b.length < 140737488355328) :
    Calls Try.prog 13 #[.slice A0 b.length c0, .int .i64 n] w fun e w' => ∃ v0_ : Value, e = .returned (.tuple #[v0_, .int .i64 (rdec b n).2]) ∧ Kd.R (Kd.int .u64) 35 w' w.heap.size (fun _ => True) v0_ (rdec b n).1 ∧ Below w.heap.size w w' := by
  by_cases cn : n < 0 ∨ 65536 < n
  · have e : rdec b n = ([], 1) := by
      unfold rdec
      rw [if_pos cn]
    rw [e]
    clear e
    have HB := Aside0.mk (Below.refl w.heap.size w)
    by_cases c1 : n < 0
    · have d1 : decide (n < 0) = true := decide_eq_true c1
      clear cn c1 hr0 hc0 hby hbl
      go_enter Try.func13, Try.ntmps13
      go_wp2
      go_step3
      go_wp2
      repeat (go_quiet (fail); try go_wp2)
      (try rw [Exit.noGoto_ret])
      go_ret2
      exact ⟨_, rfl, Kd.R_nil _ _ _ _ _, by repeat (first | exact HB.out | apply pw_below_drewN | apply below_drew1)⟩
    · have d1 : decide (n < 0) = false := decide_eq_false c1
      have d2 : decide (65536 < n) = true := decide_eq_true (by omega)
      clear cn c1 hr0 hc0 hby hbl
      go_enter Try.func13, Try.ntmps13
      go_wp2
      go_step3
      go_wp2
      repeat (go_quiet (fail); try go_wp2)
      (try rw [Exit.noGoto_ret])
      go_ret2
      exact ⟨_, rfl, Kd.R_nil _ _ _ _ _, by repeat (first | exact HB.out | apply pw_below_drewN | apply below_drew1)⟩
  · have e : rdec b n = rfin (rdecL n.toNat n.toNat b []) := by
      unfold rdec
      rw [if_neg cn]
    rw [e]
    clear e
    have d1 : decide (n < 0) = false := decide_eq_false (by omega)
    have d2 : decide (65536 < n) = false := decide_eq_false (by omega)
    obtain ⟨m, rfl⟩ := Int.eq_ofNat_of_zero_le (show 0 ≤ n by omega)
    rw [Int.toNat_natCast]
    have hm : m ≤ 65536 := by omega
    generalize hres : rdecL m m b [] = res
    have HRES := Aside0.mk hres
    have HM := Aside0.mk hm
    have HNEW := Aside0.mk (New_any w w A0 c0 b (Below.refl _ _) hr0 hc0 hbl)
    have HBY := Aside0.mk hby
    have HBL := Aside0.mk hbl
    clear cn hres hm hr0 hc0 hby hbl
    go_enter Try.func13, Try.ntmps13
    go_wp2
    go_step3
    go_wp2_with (go_at_call 18; refine HNEW.out.mono ?_; rintro e w1 ⟨g, rfl, hcu, hgs, hb1, hb2⟩; have HCU := Aside0.mk hcu; have HB := Aside0.mk hb1; clear hcu hgs hb1 hb2)
    go_step3
    go_wp2
    go_loopg [7, 8] m (fun kq v7 v8 W' => ∃ (b' out : List Int), v8 = .int .i64 0 ∧ Aside0 (m - out.length ≤ kq) ∧ Aside0 (rdecL kq m b' out = res) ∧ Aside0 (Bytes b') ∧ Aside0 (b'.length < 140737488355328) ∧ Aside0 (Cu W' w.heap.size g b') ∧ Aside0 (Below w.heap.size w W') ∧ Aside0 (Kd.R (Kd.int .u64) 35 W' w.heap.size (fun _ => True) v7 out))
    case atStart => exact ⟨b, [], rfl, ⟨Nat.sub_le _ _⟩, HRES, HBY, HBL, HCU, HB, ⟨Kd.R_nil _ _ _ _ _⟩⟩
    case round =>
      clear HCU HB HRES HBY HBL HNEW
      obtain ⟨b', out, rfl, HD, HRES, HBY, HBL, HCU, HB, HO⟩ := hrel
      obtain ⟨A7, q7, e7⟩ := Kd.R_slice HO.out
      subst e7
      by_cases hlt : out.length < m
      · have d3 : decide ((out.length : Int) < (m : Int)) = true := decide_eq_true (by omega)
        have d4 : decide (out.length < m) = true := decide_eq_true hlt
        obtain ⟨v, b1, e1, hv⟩ : ∃ v b1 e1, cVarint b' = (v, b1, e1) := ⟨_, _, _, rfl⟩
        obtain ⟨k, b2, e2, hv2⟩ : ∃ k b2 e2, cVarint b1 = (k, b2, e2) := ⟨_, _, _, rfl⟩
        obtain ⟨dq, hdq⟩ : ∃ dq, gk = dq + 1 := ⟨gk - 1, by have := HD.out; omega⟩
        have hf1 := cVarint_facts b' HBY.out HBL.out
        rw [hv] at hf1
        have hf2 := cVarint_facts b1 hf1.2.2.1 hf1.2.2.2
        rw [hv2] at hf2
        have HV := Aside0.mk hv
        have HV2 := Aside0.mk hv2
        have HBY1 := Aside0.mk hf1.2.2.1
        have HBL1 := Aside0.mk hf1.2.2.2
        have hun := HRES.out
        rw [hdq] at hun
        unfold rdecL at hun
        rw [if_neg (by omega)] at hun
        simp only [hv, hv2] at hun
        by_cases c1 : e1 ≠ 0
        · rw [if_pos c1] at hun
          subst hun
          have d5 : (e1 != 0) = true := by simpa using c1
          have d6 : (e1 == 0) = false := by simpa using c1
          have HF := Aside0.mk (rfin_err out b1 e1 c1)
          clear hf1 hf2 hv hv2 c1 hlt HRES
          go_wp2_with (go_at_call 19; refine (Varint_at w _ g b' b1 v e1 HV.out HCU.out HB.out HBL.out HBY.out).mono ?_; rintro e wa ⟨rfl, hp⟩; have HP := Aside0.mk hp; have HO1 := Aside0.mk (R_cur HO.out HCU.out (by decide) hp.2.2); clear hp; clear HCU HB HO)
          (try rw [Exit.noGoto_ret])
          go_ret2
          rw [HF.out]
          exact ⟨_, rfl, Kd.R_nil _ _ _ _ _, HP.out.2.1⟩
        · rw [if_neg c1] at hun
          have d5 : (e1 != 0) = false := by simpa using c1
          by_cases c2 : e2 ≠ 0
          · rw [if_pos c2] at hun
            subst hun
            have d7 : (e2 != 0) = true := by simpa using c2
            have d8 : (e2 == 0) = false := by simpa using c2
            have HF := Aside0.mk (rfin_err out b2 e2 c2)
            clear hf1 hf2 hv hv2 c1 c2 hlt HRES
            go_wp2_with (first | (go_at_call 19; refine (Varint_at w _ g b' b1 v e1 HV.out HCU.out HB.out HBL.out HBY.out).mono ?_; rintro e wa ⟨rfl, hp⟩; have HP := Aside0.mk hp; have HO1 := Aside0.mk (R_cur HO.out HCU.out (by decide) hp.2.2); clear hp; clear HCU HB HO) | (go_at_call 19; refine (Varint_at w _ g b1 b2 k e2 HV2.out HP.out.1 HP.out.2.1 HBL1.out HBY1.out).mono ?_; rintro e wb ⟨rfl, hp⟩; have HP2 := Aside0.mk hp; have HO2 := Aside0.mk (R_cur HO1.out HP.out.1 (by decide) hp.2.2); clear hp; clear HP HO1))
            (try rw [Exit.noGoto_ret])
            go_ret2
            rw [HF.out]
            exact ⟨_, rfl, Kd.R_nil _ _ _ _ _, HP2.out.2.1⟩
          · rw [if_neg c2] at hun
            have d7 : (e2 != 0) = false := by simpa using c2
            replace c1 : e1 = 0 := by simpa using c1
            replace c2 : e2 = 0 := by simpa using c2
            subst c1 c2
            obtain ⟨w1, w2, hk0, hk1, hk2⟩ := rdec_facts m out.length k (by have := HM.out; omega) hlt hf2.1 hf2.2.1
            by_cases c3 : ((m - out.length : Nat) : Int) ≤ k ∨ (0 < out.length ∧ rd out ((out.length - 1 : Nat) : Int) = v)
            · rw [if_pos c3] at hun
              subst hun
              have HF := Aside0.mk (rfin_err out b2 3 (by decide))
              by_cases c4 : ((m - out.length : Nat) : Int) ≤ k
              · have d9 : decide (((m - out.length : Nat) : Int) ≤ k) = true := decide_eq_true c4
                clear hf1 hf2 hv hv2 c3 c4 hlt HRES hk0 hk1 hk2
                go_wp2_with (first | (go_at_call 19; refine (Varint_at w _ g b' b1 v 0 HV.out HCU.out HB.out HBL.out HBY.out).mono ?_; rintro e wa ⟨rfl, hp⟩; have HP := Aside0.mk hp; have HO1 := Aside0.mk (R_cur HO.out HCU.out (by decide) hp.2.2); clear hp; clear HCU HB HO) | (go_at_call 19; refine (Varint_at w _ g b1 b2 k 0 HV2.out HP.out.1 HP.out.2.1 HBL1.out HBY1.out).mono ?_; rintro e wb ⟨rfl, hp⟩; have HP2 := Aside0.mk hp; have HO2 := Aside0.mk (R_cur HO1.out HP.out.1 (by decide) hp.2.2); clear hp; clear HP HO1))
                (try rw [Exit.noGoto_ret])
                go_ret2
                rw [HF.out]
                exact ⟨_, rfl, Kd.R_nil _ _ _ _ _, HP2.out.2.1⟩
              · have hlo : 0 < out.length ∧ rd out ((out.length - 1 : Nat) : Int) = v := c3.resolve_left c4
                obtain ⟨hl0, hyv⟩ := hlo
                have d9 : decide (((m - out.length : Nat) : Int) ≤ k) = false := decide_eq_false c4
                have d10 : decide (0 < (out.length : Int)) = true := decide_eq_true (by omega)
                have d11 : decide (0 < out.length) = true := decide_eq_true hl0
                have d12 : (rdOf 0 out ((out.length - 1 : Nat) : Int) == v) = true := beq_iff_eq.mpr hyv
                have i0 : (0 : Int) ≤ (out.length : Int) - 1 := by omega
                have i1 : (out.length : Int) - 1 < (out.length : Int) := by omega
                have i2 : ((out.length : Int) - 1).toNat = out.length - 1 := by omega
                obtain ⟨q, q2, eq, qb, ql, qc, hq⟩ := Kd.R_form HO.out hl0
                injection eq with ea eb ec
                subst ea ec
                clear hf1 hf2 hv hv2 c3 c4 hlt HRES hk1 hk2 hyv qb ql hq eb
                go_wp2_with (first | (go_at_call 19; refine (Varint_at w _ g b' b1 v 0 HV.out HCU.out HB.out HBL.out HBY.out).mono ?_; rintro e wa ⟨rfl, hp⟩; have HP := Aside0.mk hp; have HO1 := Aside0.mk (R_cur HO.out HCU.out (by decide) hp.2.2); clear hp; clear HCU HB HO) | (go_at_call 19; refine (Varint_at w _ g b1 b2 k 0 HV2.out HP.out.1 HP.out.2.1 HBL1.out HBY1.out).mono ?_; rintro e wb ⟨rfl, hp⟩; have HP2 := Aside0.mk hp; have HO2 := Aside0.mk (R_cur HO1.out HP.out.1 (by decide) hp.2.2); clear hp; clear HP HO1; obtain ⟨x2, f2⟩ := Kd.R_celln 0 HO2.out ((out.length - 1 : Nat) : Int) (by omega) (by omega); rw [Int.toNat_natCast] at x2; clear f2))
                (try rw [Exit.noGoto_ret])
                go_ret2
                rw [HF.out]
                exact ⟨_, rfl, Kd.R_nil _ _ _ _ _, HP2.out.2.1⟩
            · rw [if_neg c3] at hun
              have HUN := Aside0.mk hun
              obtain ⟨kn, rfl⟩ := Int.eq_ofNat_of_zero_le hf2.1
              have c4 : ¬ ((m - out.length : Nat) : Int) ≤ (kn : Int) := fun h => c3 (.inl h)
              have d9 : decide (((m - out.length : Nat) : Int) ≤ (kn : Int)) = false := decide_eq_false c4
              have d9' : decide (m ≤ kn + out.length) = false := decide_eq_false (by omega)
              have hk1' := hk1 (by omega)
              have hk2' : kn < 65536 := by have := hk2 (by omega); omega
              have HBY2 := Aside0.mk hf2.2.2.1
              have HBL2 := Aside0.mk hf2.2.2.2
              have HK2 := Aside0.mk (show kn < 65536 ∧ out.length < 65536 from ⟨hk2', by have := HM.out; omega⟩)
              by_cases hl0 : 0 < out.length
              · have hne : ¬ rd out ((out.length - 1 : Nat) : Int) = v := fun h => c3 (.inr ⟨hl0, h⟩)
                have d10 : decide (0 < (out.length : Int)) = true := decide_eq_true (by omega)
                have d11 : decide (0 < out.length) = true := decide_eq_true hl0
                have d12 : (rdOf 0 out ((out.length - 1 : Nat) : Int) == v) = false := beq_eq_false_iff_ne.mpr hne
                have i0 : (0 : Int) ≤ (out.length : Int) - 1 := by omega
                have i1 : (out.length : Int) - 1 < (out.length : Int) := by omega
                have i2 : ((out.length : Int) - 1).toNat = out.length - 1 := by omega
                obtain ⟨q, q2, eq, qb, ql, qc, hq⟩ := Kd.R_form HO.out hl0
                injection eq with ea eb ec
                subst ea ec
                clear hun hf1 hf2 hv hv2 c3 c4 hlt HRES hk1 hk2 hk2' hne qb ql hq eb
                go_wp2_with (first | (go_at_call 19; refine (Varint_at w _ g b' b1 v 0 HV.out HCU.out HB.out HBL.out HBY.out).mono ?_; rintro e wa ⟨rfl, hp⟩; have HP := Aside0.mk hp; have HO1 := Aside0.mk (R_cur HO.out HCU.out (by decide) hp.2.2); clear hp; clear HCU HB HO) | (go_at_call 19; refine (Varint_at w _ g b1 b2 (kn : Int) 0 HV2.out HP.out.1 HP.out.2.1 HBL1.out HBY1.out).mono ?_; rintro e wb ⟨rfl, hp⟩; have HP2 := Aside0.mk hp; have HO2 := Aside0.mk (R_cur HO1.out HP.out.1 (by decide) hp.2.2); clear hp; clear HP HO1; obtain ⟨x2, f2⟩ := Kd.R_celln 0 HO2.out ((out.length - 1 : Nat) : Int) (by omega) (by omega); rw [Int.toNat_natCast] at x2; clear f2))
                clear d9 d9' d10 d11 d12 i0 i1 i2 x2 d3 d4 d5 d7 w1 w2 hk0
                go_loopg [7, 64] (kn + 1) (fun kq v7 v64 W' => ∃ (j : Nat), v64 = .int .u64 (j : Int) ∧ j ≤ kn + 1 ∧ kq = kn + 1 - j ∧ Aside0 (Cu W' w.heap.size g b2) ∧ Aside0 (Below w.heap.size w W') ∧ Aside0 (Kd.R (Kd.int .u64) 35 W' w.heap.size (fun _ => True) v7 (out ++ List.replicate j v)))
                case atStart => exact ⟨0, rfl, Nat.zero_le _, rfl, ⟨HP2.out.1⟩, ⟨HP2.out.2.1⟩, ⟨by rw [List.replicate_zero, List.append_nil]; exact HO2.out⟩⟩
                case round =>
                  clear HP2 HO2
                  obtain ⟨j, rfl, hj, rfl, HCi, HBi, HOi⟩ := hrel
                  obtain ⟨A8, q8, e8⟩ := Kd.R_slice HOi.out
                  subst e8
                  by_cases hji : j < kn + 1
                  · have g1 : decide ((j : Int) < (kn : Int) + 1) = true := decide_eq_true (by omega)
                    have g2 : decide (j < kn + 1) = true := decide_eq_true hji
                    go_wp2_with (first | ((with_reducible refine gate_builtin (b := .append) (xs := #[.tmp 66, .tmp 68]) rfl ?_); at_builtin; refine Kd.R_append (Kd.int .u64) (w0 := w) w.heap.size rfl (.tmp 66) (.tmp 68) 22 35 (.int .u64 0) 8 rfl Try.underlying22 info35 rfl (by decide) (by omega) (.slice A8 (out ++ List.replicate j v).length q8) (out ++ List.replicate j v) v [.int .u64 v] (fun _ => True) (fun _ => False) rfl rfl ?aP (fun _ hk => hk.elim) ?aF ?aO ?aB ?aS ?aL ?_; (case aP => exact rfl); (case aB => exact (by repeat (first | (with_reducible first | exact HBi.out | apply below_alloc | apply pw_below_drewN | apply below_drew1) | exact HBi.out))); (case aF => exact (fun k_ hk => trivial)); (case aO => exact (by (with_reducible repeat (first | apply Kd.R_alloc | apply Kd.R_drewN | apply Kd.R_drew)); exact HOi.out)); (case aS => exact (below_size (by repeat (first | (with_reducible first | exact HBi.out | apply below_alloc | apply pw_below_drewN | apply below_drew1) | exact HBi.out)))); (case aL => (have := HM.out; have := HK2.out; rw [List.length_append, List.length_replicate]; omega)); intro v206 w25 ho hb hg hat; have HCn := Aside0.mk (Cu.grown (by (with_reducible repeat (first | apply Cu.alloc | apply Cu.drewN | apply Cu.drew1)); exact HCi.out) (by (with_reducible repeat (first | apply Kd.R_alloc | apply Kd.R_drewN | apply Kd.R_drew)); exact HOi.out) (by decide) (by decide) hg); have HBn := Aside0.mk hb; have HOn := Aside0.mk ho; clear ho hb hg hat HCi HBi HOi))
                    go_roundg (kn + 1 - (j + 1))
                    case measure => exact (by omega)
                    case rel =>
                      refine ⟨j + 1, ?_, hji, rfl, HCn, HBn, ⟨?_⟩⟩
                      · have := HK2.out
                        rw [k64_id _ (by omega) (by omega)]
                        rfl
                      · rw [List.replicate_succ', ← List.append_assoc]
                        exact HOn.out
                  · have g1 : decide ((j : Int) < (kn : Int) + 1) = false := decide_eq_false (by omega)
                    have g2 : decide (j < kn + 1) = false := decide_eq_false hji
                    have hje : j = kn + 1 := by omega
                    subst hje
                    go_wp2
                    go_roundg dq
                    case measure => exact (by omega)
                    case rel => exact ⟨b2, out ++ List.replicate (kn + 1) v, rfl, ⟨by have := HD.out; rw [List.length_append, List.length_replicate]; omega⟩, HUN, HBY2, HBL2, HCi, HBi, HOi⟩
              · have d10 : decide (0 < (out.length : Int)) = false := decide_eq_false (by omega)
                have d11 : decide (0 < out.length) = false := decide_eq_false hl0
                clear hun hf1 hf2 hv hv2 c3 c4 hlt HRES hk1 hk2 hk2'
                go_wp2_with (first | (go_at_call 19; refine (Varint_at w _ g b' b1 v 0 HV.out HCU.out HB.out HBL.out HBY.out).mono ?_; rintro e wa ⟨rfl, hp⟩; have HP := Aside0.mk hp; have HO1 := Aside0.mk (R_cur HO.out HCU.out (by decide) hp.2.2); clear hp; clear HCU HB HO) | (go_at_call 19; refine (Varint_at w _ g b1 b2 (kn : Int) 0 HV2.out HP.out.1 HP.out.2.1 HBL1.out HBY1.out).mono ?_; rintro e wb ⟨rfl, hp⟩; have HP2 := Aside0.mk hp; have HO2 := Aside0.mk (R_cur HO1.out HP.out.1 (by decide) hp.2.2); clear hp; clear HP HO1))
                clear d9 d9' d10 d11 d3 d4 d5 d7 w1 w2 hk0
                go_loopg [7, 64] (kn + 1) (fun kq v7 v64 W' => ∃ (j : Nat), v64 = .int .u64 (j : Int) ∧ j ≤ kn + 1 ∧ kq = kn + 1 - j ∧ Aside0 (Cu W' w.heap.size g b2) ∧ Aside0 (Below w.heap.size w W') ∧ Aside0 (Kd.R (Kd.int .u64) 35 W' w.heap.size (fun _ => True) v7 (out ++ List.replicate j v)))
                case atStart => exact ⟨0, rfl, Nat.zero_le _, rfl, ⟨HP2.out.1⟩, ⟨HP2.out.2.1⟩, ⟨by rw [List.replicate_zero, List.append_nil]; exact HO2.out⟩⟩
                case round =>
                  clear HP2 HO2
                  obtain ⟨j, rfl, hj, rfl, HCi, HBi, HOi⟩ := hrel
                  obtain ⟨A8, q8, e8⟩ := Kd.R_slice HOi.out
                  subst e8
                  by_cases hji : j < kn + 1
                  · have g1 : decide ((j : Int) < (kn : Int) + 1) = true := decide_eq_true (by omega)
                    have g2 : decide (j < kn + 1) = true := decide_eq_true hji
                    go_wp2_with (first | ((with_reducible refine gate_builtin (b := .append) (xs := #[.tmp 66, .tmp 68]) rfl ?_); at_builtin; refine Kd.R_append (Kd.int .u64) (w0 := w) w.heap.size rfl (.tmp 66) (.tmp 68) 22 35 (.int .u64 0) 8 rfl Try.underlying22 info35 rfl (by decide) (by omega) (.slice A8 (out ++ List.replicate j v).length q8) (out ++ List.replicate j v) v [.int .u64 v] (fun _ => True) (fun _ => False) rfl rfl ?aP (fun _ hk => hk.elim) ?aF ?aO ?aB ?aS ?aL ?_; (case aP => exact rfl); (case aB => exact (by repeat (first | (with_reducible first | exact HBi.out | apply below_alloc | apply pw_below_drewN | apply below_drew1) | exact HBi.out))); (case aF => exact (fun k_ hk => trivial)); (case aO => exact (by (with_reducible repeat (first | apply Kd.R_alloc | apply Kd.R_drewN | apply Kd.R_drew)); exact HOi.out)); (case aS => exact (below_size (by repeat (first | (with_reducible first | exact HBi.out | apply below_alloc | apply pw_below_drewN | apply below_drew1) | exact HBi.out)))); (case aL => (have := HM.out; have := HK2.out; rw [List.length_append, List.length_replicate]; omega)); intro v206 w25 ho hb hg hat; have HCn := Aside0.mk (Cu.grown (by (with_reducible repeat (first | apply Cu.alloc | apply Cu.drewN | apply Cu.drew1)); exact HCi.out) (by (with_reducible repeat (first | apply Kd.R_alloc | apply Kd.R_drewN | apply Kd.R_drew)); exact HOi.out) (by decide) (by decide) hg); have HBn := Aside0.mk hb; have HOn := Aside0.mk ho; clear ho hb hg hat HCi HBi HOi))
                    go_roundg (kn + 1 - (j + 1))
                    case measure => exact (by omega)
                    case rel =>
                      refine ⟨j + 1, ?_, hji, rfl, HCn, HBn, ⟨?_⟩⟩
                      · have := HK2.out
                        rw [k64_id _ (by omega) (by omega)]
                        rfl
                      · rw [List.replicate_succ', ← List.append_assoc]
                        exact HOn.out
                  · have g1 : decide ((j : Int) < (kn : Int) + 1) = false := decide_eq_false (by omega)
                    have g2 : decide (j < kn + 1) = false := decide_eq_false hji
                    have hje : j = kn + 1 := by omega
                    subst hje
                    go_wp2
                    go_roundg dq
                    case measure => exact (by omega)
                    case rel => exact ⟨b2, out ++ List.replicate (kn + 1) v, rfl, ⟨by have := HD.out; rw [List.length_append, List.length_replicate]; omega⟩, HUN, HBY2, HBL2, HCi, HBi, HOi⟩
      · have d3 : decide ((out.length : Int) < (m : Int)) = false := decide_eq_false (by omega)
        have d4 : decide (out.length < m) = false := decide_eq_false hlt
        have hun : res = (out, 0, b') := by
          have h := HRES.out
          cases gk with
          | zero => exact h.symm
          | succ d =>
            unfold rdecL at h
            rw [if_pos (by omega)] at h
            exact h.symm
        subst hun
        by_cases c5 : 0 < b'.length
        · have HF := Aside0.mk (show rfin (out, 0, b') = ([], 3) by unfold rfin; rw [if_neg (by simp), if_pos c5])
          have HE := Aside0.mk (show (if 0 < b'.length then (3 : Int) else 0) = 3 from if_pos c5)
          clear c5 hlt HRES
          go_wp2_with (go_at_call 20; refine (End_any w _ g b' HCU.out).mono ?_; rw [HE.out]; rintro e wa ⟨rfl, hd⟩; have HD2 := Aside0.mk hd; clear hd)
          (try rw [Exit.noGoto_ret])
          go_ret2
          rw [HF.out]
          exact ⟨_, rfl, Kd.R_nil _ _ _ _ _, below_step HB.out HD2.out.below⟩
        · have HF := Aside0.mk (show rfin (out, 0, b') = (out, 0) by unfold rfin; rw [if_neg (by simp), if_neg c5])
          have HE := Aside0.mk (show (if 0 < b'.length then (3 : Int) else 0) = 0 from if_neg c5)
          clear c5 hlt HRES
          go_wp2_with (go_at_call 20; refine (End_any w _ g b' HCU.out).mono ?_; rw [HE.out]; rintro e wa ⟨rfl, hd⟩; have HD2 := Aside0.mk hd; clear hd)
          (try rw [Exit.noGoto_ret])
          go_ret2
          rw [HF.out]
          exact ⟨_, rfl, Kd.R_below HO.out HD2.out.below, below_step HB.out HD2.out.below⟩
theorem runs_Decode.calls (A0 : Option Addr) (c0 : Nat) (l0 : List Int) (a1 : Int) (r1 : List Int) (r2 : Int) (w : World) (hr0 : Kd.C (Kd.int .u8) w A0 l0.length l0) (hc0 : l0.length ≤ c0) (h : runs_Decode.f l0 a1 = some (r1, r2)) :
    Calls Try.prog 13 #[.slice A0 l0.length c0, .int .i64 a1] w fun e w' => ∃ v0_ : Value, e = .returned (.tuple #[v0_, .int .i64 r2]) ∧ Kd.R (Kd.int .u64) 35 w' w.heap.size (fun _ => True) v0_ r1 ∧ Below w.heap.size w w' := by
  unfold runs_Decode.f at h
  split at h
  · next hc =>
    have e := Option.some.inj h
    have := runs_Decode.calls_any l0 a1 A0 c0 w hr0 hc0 hc.1 hc.2
    rw [e] at this
    exact this
  · cases h
end Go.Proofs.Ytdkhnkbhgaobdaa.P
