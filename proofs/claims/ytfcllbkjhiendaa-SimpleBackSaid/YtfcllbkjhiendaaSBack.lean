/- The law SimpleBack: the walk by hand (append of a make). -/
import Derived.Test.YtfcllbkjhiendaaPx5
import Derived.Test.YtfcllbkjhiendaaSEnc
import Derived.Test.YtfcllbkjhiendaaSimB
import Derived.Test.YtfcllbkjhiendaaAppZ
import Derived.OneCell
import Derived.RegionTactic
import Derived.BigRegion
import Derived.Outline
import Derived.Deep.QuietTactic
import Derived.BigQuiet
namespace Go.Proofs.Ytfcllbkjhiendaa.P
open Go.RowKit Go.Proofs.Ytfcllbkjhiendaa.Kit Go.Proofs.Ytfcllbkjhiendaa.Var Go.Proofs.Ytfcllbkjhiendaa.Sim Go.Proofs.YtfcllbkjhiendaaW.PrintWords Go.Proofs.YtfcllbkjhiendaaW.PrintLast Go.Proofs.YtfcllbkjhiendaaW.PrintMore
set_option linter.unusedVariables false
set_option linter.unusedSimpArgs false
theorem mask10 (a : Int) : Go.bits .and .i64 a 1023 = ((a % 1024).toNat : Int) := by
  have h := and_mask a 10 (by omega)
  rw [show (2 : Int) ^ 10 = 1024 by decide] at h
  rw [show (1023 : Int) = 1024 - 1 by decide, h]
  omega
theorem zeros8 : (Builtin.zeroCells (Value.int .u8 0).cells 8).toList = List.replicate 8 (Value.int .u8 0) := by first | kernel_rfl | (simp [Builtin.zeroCells, Value.cells, Array.range]; rfl) | (apply List.ext_getElem <;> simp [Builtin.zeroCells, Value.cells])
/-- Nothing plain is left to show. -/
def casketlaw06_SimpleBack.Pure : Prop := True
set_option maxHeartbeats 1000000 in
set_option maxRecDepth 100000 in
theorem casketlaw06_SimpleBack.walk (P : casketlaw06_SimpleBack.Pure) (a0 : Option Addr) (len0 cap0 : Nat) (z0 : List Int) (a1 : Int) (w : World)
    (h0 : (a0 = none ∧ len0 = 0 ∧ cap0 = 0 ∧ z0 = []) ∨ ∃ x, a0 = some x ∧ len0 ≤ cap0 ∧ cap0 ≤ maxLen ∧ z0.length = cap0 ∧ (∀ i, i < z0.length → w.cell? (x.add i) = some (.int .u64 (z0.getD i 0))) ∧ ∀ n ∈ z0, (Lit.int .u64 n).wf = true) (y0 : len0 * 8 ≤ 140737488351232)
    (h1 : (Lit.int .i64 a1).wf = true) :
    Calls Try.prog 5 #[.slice a0 len0 cap0, .int .i64 a1] w fun e w' => e = .returned (.bool true) ∧ Below w.heap.size w w' := by
  obtain ⟨l, rfl, hr, hm, hw, hc⟩ := ReadsInt.ofRowC h0
  have HR := Aside0.mk (Kd.C_of_reads (d := (0 : Int)) (h1 := fun _ => rfl) hr)
  have HC := Aside0.mk hc
  have hu : Us l := fun x hx => wfu64 (hw x hx)
  obtain ⟨ka, hka⟩ := awake_ev.get
  have HA := Aside0.mk (casketlaw06_awake.calls ka true w hka)
  have m1 := mask10 a1
  clear h0 h1 hr hm hw hc hka
  generalize (a1 % 1024).toNat = K at *
  by_cases c2 : 600 < l.length
  · have e3 : decide (600 < (l.length : Int)) = true := decide_eq_true (by omega)
    have e4 : decide (600 < l.length) = true := decide_eq_true c2
    go_enter Try.func5, Try.ntmps5
    go_wp2_with (fail)
    refine HA.out.mono ?_
    rintro e wa ⟨rfl, hb⟩
    have HB := Aside0.mk hb
    clear hb HA
    go_wp2_with (fail)
    go_ret
    exact ⟨rfl, HB.out⟩
  · have e3 : decide (600 < (l.length : Int)) = false := decide_eq_false (by omega)
    have e4 : decide (600 < l.length) = false := decide_eq_false c2
    have HL := Aside0.mk (show l.length ≤ 600 by omega)
    have HE := Aside0.mk (Enc_f l hu (by omega))
    by_cases h60 : ∀ x ∈ l, x < 2 ^ 60
    · rw [sEnc_ok l (by omega) h60] at HE
      have hlen := sEncN_len l.length l
      have hby := sEncN_by l.length l
      obtain ⟨kd, hkd⟩ := (Dec_ev (sEncN l.length l) hby (by omega) (l.length : Int)).get
      rw [s_back hu h60 (by omega)] at hkd
      have HD := Aside0.mk hkd
      have hby2 : Bytes (sEncN l.length l ++ List.replicate 8 0) := hby.append (fun x hx => by rw [List.eq_of_mem_replicate hx]; omega)
      obtain ⟨km, hkm⟩ := (Dec_ev (sEncN l.length l ++ List.replicate 8 0) hby2 (by rw [List.length_append, List.length_replicate]; omega) (l.length : Int)).get
      have hm2 := s_more hu h60 (by omega) (List.replicate 8 0) (by decide)
      obtain ⟨em, hem⟩ : ∃ em, (sDec (sEncN l.length l ++ List.replicate 8 0) (l.length : Int)).1 = em := ⟨_, rfl⟩
      rw [show sDec (sEncN l.length l ++ List.replicate 8 0) (l.length : Int) = (em, 3) from Prod.ext hem hm2] at hkm
      have HM := Aside0.mk hkm
      obtain ⟨kc, hkc⟩ := (Dec_ev ((sEncN l.length l).take K) (hby.take K) (by rw [List.length_take]; omega) (l.length : Int)).get
      have HCU := Aside0.mk (show K < (sEncN l.length l).length → (sDec ((sEncN l.length l).take K) (l.length : Int)).2 = 2 from s_cut hu h60 (by omega) K)
      have HCT := Aside0.mk hkc
      obtain ⟨ks, hks⟩ := (same_ev l l (by omega)).get
      rw [decide_eq_true rfl] at hks
      have HSM := Aside0.mk hks
      have HBL := Aside0.mk (show (sEncN l.length l).length ≤ 4800 by omega)
      obtain ⟨bz, hbz⟩ : ∃ bz, sEncN l.length l ++ List.replicate 8 (0 : Int) = bz := ⟨_, rfl⟩
      rw [hbz] at HM
      have HBZ := Aside0.mk hbz
      clear hkd hkm hkc hks hby hby2 hlen hm2 hem h60 hu c2 hbz
      generalize sEncN l.length l = b at *
      go_enter Try.func5, Try.ntmps5
      go_wp2_with (fail)
      refine HA.out.mono ?_
      rintro e wa ⟨rfl, hb⟩
      have HB := Aside0.mk hb
      clear hb HA
      go_wp2_with (fail)
      refine (simple_Encode.calls a0 cap0 l b 0 _ (Kd.C_below HR.out HB.out) HC.out HE.out).mono ?_
      rintro e wb ⟨v6, rfl, ho, hb⟩
      have HX := Aside0.mk (Kd.R_lower ho HB.out.size)
      have HB2 := Aside0.mk (below_step HB.out hb)
      clear ho hb HB HE
      obtain ⟨A6, q6, e6⟩ := Kd.R_slice HX.out
      subst e6
      go_wp2_with (fail)
      refine (simple_Decode.calls kd A6 q6 b (l.length : Int) l 0 _ (Kd.R_reads' HX.out).2.2 (Kd.R_reads' HX.out).2.1 HD.out).mono ?_
      rintro e wc ⟨v8, rfl, ho, hb⟩
      have HX3 := Aside0.mk (Kd.R_below HX.out hb)
      have HY := Aside0.mk ho
      have HB3 := Aside0.mk (below_step HB2.out hb)
      clear ho hb HB2 HX HD
      obtain ⟨A8, q8, e8⟩ := Kd.R_slice HY.out
      subst e8
      go_wp2_with (fail)
      refine (casketlaw06_same.calls ks _ _ l _ _ l true _ (Kd.R_reads' HY.out).2.2 (Kd.R_reads' HY.out).2.1 (Kd.C_below HR.out HB3.out) HC.out HSM.out).mono ?_
      rintro e wd ⟨rfl, ⟨n4, rfl⟩⟩
      have HX4 := Aside0.mk (Kd.R_drewN HX3.out n4)
      have HB4 := Aside0.mk (pw_below_drewN HB3.out n4)
      clear HX3 HB3 HY
      generalize wc.drewN n4 = wz at *
      by_cases cK : K < b.length
      · have d1 : decide ((K : Int) < (b.length : Int)) = true := decide_eq_true (by omega)
        have d2 : decide (K < b.length) = true := decide_eq_true cK
        have hlc := (Kd.R_reads' HX4.out).2.1
        obtain ⟨i0, hi, _, hsz, _⟩ := info_parts info5
        have hcut := cut_to (P := Try.prog) 24 5 .i64 Try.underlying24 hi A6 b.length q6 (K : Int) (by omega) (by omega) hlc
        rw [Int.toNat_natCast] at hcut
        have hr := Kd.C_take (m := K) (Kd.R_reads' HX4.out).2.2 (by omega)
        have hl : (b.take K).length = K := by
          rw [List.length_take]
          omega
        have hdec := HCT.out
        obtain ⟨et, het⟩ : ∃ et, (sDec (b.take K) (l.length : Int)).1 = et := ⟨_, rfl⟩
        rw [show sDec (b.take K) (l.length : Int) = (et, 2) from Prod.ext het (HCU.out cK)] at hdec
        have hcl := simple_Decode.calls kc A6 q6 (b.take K) (l.length : Int) et 2 wz (by rw [hl]; rw [hl] at hr; exact hr) (by rw [hl]; omega) hdec
        rw [hl] at hcl
        have HCL := Aside0.mk hcl
        have HKQ := Aside0.mk (show K ≤ q6 by omega)
        clear hcl hr hl hdec het hlc hi hsz
        go_wp2_with (fail)
        refine HCL.out.mono ?_
        rintro e we ⟨v11, rfl, ho, hb⟩
        have HX6 := Aside0.mk (Kd.R_below HX4.out hb)
        have HB6 := Aside0.mk (below_step HB4.out hb)
        clear ho hb HX4 HB4 HCL
        go_wp2_with (first
          | ((with_reducible refine gate_dst (N := 70) rfl ?_); refine Kd.R_lit (Kd.int .u8) _ 5 ?hg (N := 70) ?hd (xs := ([] : List Int)) (inner := []) (ok := fun _ => True) (okp := fun _ => True) ?hr ?hp (fun _ hk => hk) trivial (Below.refl _ _) (Nat.le_refl _) (by simp) ?_; (case hd => rfl); (case hg => rfl); (case hr => first | (go_simp; done) | (go_simp; rfl)); (case hp => exact (Reps.none _ _)); intro v70 w70 ho70 hb hg_ hnew_; have HX7 := Aside0.mk (Kd.R_below HX6.out hb); have HB7 := Aside0.mk (below_step HB6.out hb); have HO7 := Aside0.mk (Kd.R_lower ho70 HB6.out.size); clear hb ho70 hg_ hnew_)
          | ((with_reducible refine gate_builtin (b := .append) (xs := #[.tmp 70, .tmp 71]) rfl ?_); at_builtin; refine Kd.R_append_rows (Kd.int .u8) (w0 := w) w.heap.size rfl (.tmp 70) (.tmp 71) 24 5 (.int .u8 0) 1 rfl Try.underlying24 info5 rfl (by decide) (by omega) v70 [] b A6 _ q6 (fun _ => True) (fun _ => False) rfl rfl HO7.out (Kd.R_reads' HX7.out).2.2 (fun _ _ h => h) (fun _ h => h.elim) (fun _ _ => trivial) HB7.out HB7.out.size (by have := HBL.out; rw [List.length_nil]; omega) ?_; intro v72 w72 ho hb hg hat; rw [List.nil_append] at ho; have HO8 := Aside0.mk ho; have HB8 := Aside0.mk hb; clear ho hb hg hat)
          | ((with_reducible refine gate_builtin (b := .append) (xs := #[.tmp 72, .const (.int .i64 8)]) rfl ?_); at_builtin; go_loud (refine R_append_zeros (w0 := w) w.heap.size rfl (.tmp 72) (.const (.int .i64 8)) 24 3 5 .i64 .i64 1 rfl Try.underlying24 Try.underlying3 info5 v72 b 8 (by decide) zeros8 rfl rfl HO8.out HB8.out HB8.out.size (by have := HBL.out; omega) (by have := HBL.out; omega) ?_; intro v73 w73 ho hb hg; rw [HBZ.out] at ho; have HO9 := Aside0.mk ho; have HB9 := Aside0.mk hb; clear ho hb hg; obtain ⟨A9, q9, e9⟩ := Kd.R_slice HO9.out; subst e9))
          | fail)
        refine (simple_Decode.calls km A9 q9 bz (l.length : Int) em 3 _ (Kd.R_reads' HO9.out).2.2 (Kd.R_reads' HO9.out).2.1 HM.out).mono ?_
        rintro e w80 ⟨v80, rfl, ho, hb⟩
        have HB10 := Aside0.mk (below_step HB9.out hb)
        clear ho hb
        go_wp2_with (fail)
        go_ret
        exact ⟨rfl, HB10.out⟩
      · have d1 : decide ((K : Int) < (b.length : Int)) = false := decide_eq_false (by omega)
        have d2 : decide (K < b.length) = false := decide_eq_false cK
        have HX6 := HX4
        have HB6 := HB4
        go_wp2_with (first
          | ((with_reducible refine gate_dst (N := 70) rfl ?_); refine Kd.R_lit (Kd.int .u8) _ 5 ?hg (N := 70) ?hd (xs := ([] : List Int)) (inner := []) (ok := fun _ => True) (okp := fun _ => True) ?hr ?hp (fun _ hk => hk) trivial (Below.refl _ _) (Nat.le_refl _) (by simp) ?_; (case hd => rfl); (case hg => rfl); (case hr => first | (go_simp; done) | (go_simp; rfl)); (case hp => exact (Reps.none _ _)); intro v70 w70 ho70 hb hg_ hnew_; have HX7 := Aside0.mk (Kd.R_below HX6.out hb); have HB7 := Aside0.mk (below_step HB6.out hb); have HO7 := Aside0.mk (Kd.R_lower ho70 HB6.out.size); clear hb ho70 hg_ hnew_)
          | ((with_reducible refine gate_builtin (b := .append) (xs := #[.tmp 70, .tmp 71]) rfl ?_); at_builtin; refine Kd.R_append_rows (Kd.int .u8) (w0 := w) w.heap.size rfl (.tmp 70) (.tmp 71) 24 5 (.int .u8 0) 1 rfl Try.underlying24 info5 rfl (by decide) (by omega) v70 [] b A6 _ q6 (fun _ => True) (fun _ => False) rfl rfl HO7.out (Kd.R_reads' HX7.out).2.2 (fun _ _ h => h) (fun _ h => h.elim) (fun _ _ => trivial) HB7.out HB7.out.size (by have := HBL.out; rw [List.length_nil]; omega) ?_; intro v72 w72 ho hb hg hat; rw [List.nil_append] at ho; have HO8 := Aside0.mk ho; have HB8 := Aside0.mk hb; clear ho hb hg hat)
          | ((with_reducible refine gate_builtin (b := .append) (xs := #[.tmp 72, .const (.int .i64 8)]) rfl ?_); at_builtin; go_loud (refine R_append_zeros (w0 := w) w.heap.size rfl (.tmp 72) (.const (.int .i64 8)) 24 3 5 .i64 .i64 1 rfl Try.underlying24 Try.underlying3 info5 v72 b 8 (by decide) zeros8 rfl rfl HO8.out HB8.out HB8.out.size (by have := HBL.out; omega) (by have := HBL.out; omega) ?_; intro v73 w73 ho hb hg; rw [HBZ.out] at ho; have HO9 := Aside0.mk ho; have HB9 := Aside0.mk hb; clear ho hb hg; obtain ⟨A9, q9, e9⟩ := Kd.R_slice HO9.out; subst e9))
          | fail)
        refine (simple_Decode.calls km A9 q9 bz (l.length : Int) em 3 _ (Kd.R_reads' HO9.out).2.2 (Kd.R_reads' HO9.out).2.1 HM.out).mono ?_
        rintro e w80 ⟨v80, rfl, ho, hb⟩
        have HB10 := Aside0.mk (below_step HB9.out hb)
        clear ho hb
        go_wp2_with (fail)
        go_ret
        exact ⟨rfl, HB10.out⟩
    · rw [sEnc_bad l (by omega) h60] at HE
      clear h60 hu c2 m1
      go_enter Try.func5, Try.ntmps5
      go_wp2_with (fail)
      refine HA.out.mono ?_
      rintro e wa ⟨rfl, hb⟩
      have HB := Aside0.mk hb
      clear hb HA
      go_wp2_with (fail)
      refine (simple_Encode.calls a0 cap0 l [] 1 _ (Kd.C_below HR.out HB.out) HC.out HE.out).mono ?_
      rintro e wb ⟨v6, rfl, ho, hb⟩
      have HX := Aside0.mk ho
      have HB2 := Aside0.mk (below_step HB.out hb)
      clear ho hb HB HE
      obtain ⟨A6, q6, e6⟩ := Kd.R_slice HX.out
      subst e6
      go_wp2_with (fail)
      go_ret
      exact ⟨rfl, HB2.out⟩
end Go.Proofs.Ytfcllbkjhiendaa.P
