/- The law CursorParts: the walk by hand (three cursors). -/
import Derived.Test.YtcfkljhdjoepkaaPx4
import Derived.Test.YtcfkljhdjoepkaaPx3
import Derived.Test.YtcfkljhdjoepkaaCurL
import Derived.Test.YtcfkljhdjoepkaaRefCur
import Derived.Test.YtcfkljhdjoepkaaWGuard
import Derived.OneCell
import Derived.RegionTactic
import Derived.BigRegion
import Derived.Outline
import Derived.Deep.QuietTactic
import Derived.BigQuiet
namespace Go.Proofs.Ytcfkljhdjoepkaa.P
open Go.RowKit Go.Proofs.Ytcfkljhdjoepkaa.Kit Go.Proofs.Ytcfkljhdjoepkaa.Var Go.Proofs.YtcfkljhdjoepkaaW.PrintWords Go.Proofs.YtcfkljhdjoepkaaW.PrintLast Go.Proofs.YtcfkljhdjoepkaaW.PrintMore
attribute [local go_sem] max2_int min2_int max_two min_two
set_option linter.unusedVariables false
set_option linter.unusedSimpArgs false

theorem Cu.kept2 {W W' : World} {B B' g g' : Nat} {b b' : List Int} (h : Cu W B g b) (h' : Cu W B' g' b') (hk : Kept W W' (fun k => k = g')) (hne : g ≠ g') : Cu W' B g b := by
  obtain ⟨v, hg, hb, hq⟩ := h
  obtain ⟨v', hg', _, _⟩ := h'
  exact ⟨v, (hk.2 g (lt_of_block hg) hne).trans hg, hb, Kd.Q_mono (Kd.Q_kept (Kd.Q_types hq hg' (by decide)) hk (fun k hk => hk.2)) (fun k hk => hk.1)⟩
theorem be_snoc (p : List Int) (x v : Int) : be (p ++ [x]) v = be p v * 256 + x := by simp [be]
theorem be_take (l : List Int) (i : Nat) (h : i < l.length) : be (l.take (i + 1)) 0 = be (l.take i) 0 * 256 + rd l (i : Int) := by
  rw [List.take_add_one, List.getElem?_eq_getElem h, Option.toList_some, be_snoc, rd_nat, List.getD_eq_getElem?_getD, List.getElem?_eq_getElem h, Option.getD_some]
theorem cBytes_code (l : List Int) (n : Nat) : (cBytes l (n : Int)).2.2 = if l.length < n then 2 else 0 := by
  unfold cBytes
  rw [if_neg (by omega)]
  by_cases c : l.length < n
  · rw [if_pos (by omega), if_pos c]
  · rw [if_neg (by omega), if_neg c]
theorem cBytes_ok (l : List Int) (n : Nat) (h : n ≤ l.length) : cBytes l (n : Int) = (l.take n, l.drop n, 0) := by
  unfold cBytes
  rw [if_neg (by omega), if_neg (by omega), Int.toNat_natCast]
theorem cBytes_short (l : List Int) (n : Nat) (h : l.length < n) : cBytes l (n : Int) = ([], l, 2) := by
  unfold cBytes
  rw [if_neg (by omega), if_pos (by omega)]
theorem mask63 (a : Int) : Go.bits .and .i64 a 63 = ((a % 64).toNat : Int) := by
  have h := and_mask a 6 (by omega)
  rw [show (2 : Int) ^ 6 = 64 by decide] at h
  rw [show (63 : Int) = 64 - 1 by decide, h]
  omega
theorem mask7 (n : Nat) : Go.bits .and .i64 (n : Int) 7 = ((n % 8 : Nat) : Int) := by
  have h := and_mask (n : Int) 3 (by omega)
  rw [show (2 : Int) ^ 3 = 8 by decide] at h
  rw [show (7 : Int) = 8 - 1 by decide, h]
  omega
/-- Nothing plain is left to show. -/
def casketlaw03_CursorParts.Pure : Prop := True
set_option maxHeartbeats 1000000 in
set_option maxRecDepth 100000 in
theorem casketlaw03_CursorParts.walk (P : casketlaw03_CursorParts.Pure) (a0 : Option Addr) (len0 cap0 : Nat) (z0 : List Int) (a1 a2 : Int) (w : World)
    (h0 : (a0 = none ∧ len0 = 0 ∧ cap0 = 0 ∧ z0 = []) ∨ ∃ x, a0 = some x ∧ len0 ≤ cap0 ∧ cap0 ≤ maxLen ∧ z0.length = cap0 ∧ (∀ i, i < z0.length → w.cell? (x.add i) = some (.int .u8 (z0.getD i 0))) ∧ ∀ n ∈ z0, (Lit.int .u8 n).wf = true) (y0 : len0 * 1 ≤ 140737488351232)
    (h1 : (Lit.int .i64 a1).wf = true) (h2 : (Lit.int .i64 a2).wf = true) :
    Calls Try.prog 4 #[.slice a0 len0 cap0, .int .i64 a1, .int .i64 a2] w fun e w' => e = .returned (.bool true) ∧ Below w.heap.size w w' := by
  obtain ⟨l, rfl, hr, hm, hw, hc⟩ := ReadsInt.ofRowC h0
  have HR := Aside0.mk (Kd.C_of_reads (d := (0 : Int)) (h1 := fun _ => rfl) hr)
  have HC := Aside0.mk hc
  have HBY := Aside0.mk (show Bytes l from fun x hx => wfu8 (hw x hx))
  obtain ⟨ka, hka⟩ := CurL.awake_ev.get
  have HA := Aside0.mk (casketlaw03_awake.calls ka true w hka)
  have m1 := mask63 a1
  have m2 := mask63 a2
  have HIJ := Aside0.mk (show (a1 % 64).toNat < 64 ∧ (a2 % 64).toNat < 64 by omega)
  clear h0 h1 h2 hr hm hw hc hka
  generalize (a1 % 64).toNat = I at *
  generalize (a2 % 64).toNat = J at *
  by_cases c2 : 300 < l.length
  · have e3 : decide (300 < (l.length : Int)) = true := decide_eq_true (by omega)
    have e4 : decide (300 < l.length) = true := decide_eq_true c2
    go_enter Try.func4, Try.ntmps4
    go_wp2_with (fail)
    refine HA.out.mono ?_
    rintro e wa ⟨rfl, hb⟩
    have HB := Aside0.mk hb
    clear hb HA
    go_wp2_with (fail)
    go_ret
    exact ⟨rfl, HB.out⟩
  · have e3 : decide (300 < (l.length : Int)) = false := decide_eq_false (by omega)
    have e4 : decide (300 < l.length) = false := decide_eq_false c2
    have HL := Aside0.mk (show l.length ≤ 300 by omega)
    clear c2
    go_enter Try.func4, Try.ntmps4
    go_wp2_with (fail)
    refine HA.out.mono ?_
    rintro e wa ⟨rfl, hb⟩
    have HB := Aside0.mk hb
    clear hb HA
    go_wp2_with (fail)
    refine (New_any w _ _ _ l HB.out (Kd.C_below HR.out HB.out) HC.out (by have := HL.out; omega)).mono ?_
    rintro e wb ⟨gc, rfl, hc1, hgc, hb1, hb2⟩
    have HCC := Aside0.mk hc1
    have HB2 := Aside0.mk hb1
    clear hc1 hgc hb1 hb2 HB
    go_wp2_with (fail)
    refine (New_any w _ _ _ l HB2.out (Kd.C_below HR.out HB2.out) HC.out (by have := HL.out; omega)).mono ?_
    rintro e wc ⟨gd, rfl, hc1, hgd, hb1, hb2⟩
    have HDD := Aside0.mk hc1
    have HB3 := Aside0.mk hb1
    have HCC3 := Aside0.mk (HCC.out.below hb2)
    have HNE := Aside0.mk (show gc ≠ gd from by
      obtain ⟨v, hg, _, _⟩ := HCC.out
      have := lt_of_block hg
      omega)
    clear hc1 hgd hb1 hb2 HB2 HCC
    go_wp2_with (fail)
    refine (Bytes_any w _ gc l (I : Int) HCC3.out HB3.out (by have := HL.out; omega)).mono ?_
    rintro e wd ⟨vx, rfl, hx, hp⟩
    have HX := Aside0.mk hx
    have HCC4 := Aside0.mk hp.1
    have HB4 := Aside0.mk hp.2.1
    have HDD4 := Aside0.mk (HDD.out.kept2 HCC3.out hp.2.2 (Ne.symm HNE.out))
    clear hx hp HCC3 HB3 HDD
    have HLX := Aside0.mk (show (cBytes l (I : Int)).2.1.length ≤ 300 from by
      have := HL.out
      by_cases c : l.length < I
      · rw [cBytes_short l I c]
        exact this
      · rw [cBytes_ok l I (by omega)]
        show (l.drop I).length ≤ 300
        rw [List.length_drop]
        omega)
    go_wp2_with (fail)
    refine (Bytes_any w _ gc _ (J : Int) HCC4.out HB4.out (by have := HLX.out; omega)).mono ?_
    rintro e we ⟨vy, rfl, hy, hp⟩
    have HY := Aside0.mk hy
    have HX5 := Aside0.mk (R_cur HX.out HCC4.out (by decide) hp.2.2)
    have HCC5 := Aside0.mk hp.1
    have HB5 := Aside0.mk hp.2.1
    have HDD5 := Aside0.mk (HDD4.out.kept2 HCC4.out hp.2.2 (Ne.symm HNE.out))
    clear hy hp HCC4 HB4 HDD4 HX
    have eIJ : wrap64 ((I : Int) + (J : Int)) = ((I + J : Nat) : Int) := by
      have := HIJ.out
      rw [wrap64_id (by omega) (by omega)]
      omega
    go_wp2_with (fail)
    (try rw [eIJ])
    refine (Bytes_any w _ gd l ((I + J : Nat) : Int) HDD5.out HB5.out (by have := HL.out; omega)).mono ?_
    rintro e wf ⟨vz, rfl, hz, hp⟩
    have HZ := Aside0.mk hz
    have HX6 := Aside0.mk (R_cur HX5.out HDD5.out (by decide) hp.2.2)
    have HY6 := Aside0.mk (R_cur HY.out HDD5.out (by decide) hp.2.2)
    have HDD6 := Aside0.mk hp.1
    have HB6 := Aside0.mk hp.2.1
    have HCC6 := Aside0.mk (HCC5.out.kept2 HDD5.out hp.2.2 HNE.out)
    clear hz hp HCC5 HB5 HDD5 HX5 HY
    by_cases cL : l.length < I + J
    · have d1 : decide ((l.length : Int) < (I : Int) + (J : Int)) = true := decide_eq_true (by omega)
      have d2 : decide ((l.length : Int) < ((I + J : Nat) : Int)) = true := decide_eq_true (by omega)
      have d3 : decide (l.length < I + J) = true := decide_eq_true cL
      rw [cBytes_short l (I + J) cL] at HDD6
      rw [cBytes_short l (I + J) cL]
      by_cases cI : l.length < I
      · rw [cBytes_short l I cI]
        go_wp2_with (fail)
        refine (Left_any w _ gd l HDD6.out).mono ?_
        rintro e wg ⟨rfl, ⟨n7, rfl⟩⟩
        go_wp2_with (fail)
        go_ret
        exact ⟨rfl, pw_below_drewN HB6.out _⟩
      · rw [cBytes_ok l I (by omega)] at HCC6
        have e1 : (cBytes l (I : Int)).2.2 = 0 := by rw [cBytes_ok l I (by omega)]
        have e2 : (cBytes (cBytes l (I : Int)).2.1 (J : Int)).2.2 = 2 := by rw [cBytes_ok l I (by omega)]; rw [cBytes_short (l.drop I) J (by rw [List.length_drop]; omega)]
        rw [e1, e2]
        go_wp2_with (fail)
        refine (Left_any w _ gd l HDD6.out).mono ?_
        rintro e wg ⟨rfl, ⟨n7, rfl⟩⟩
        go_wp2_with (fail)
        go_ret
        exact ⟨rfl, pw_below_drewN HB6.out _⟩
    · have d1 : decide ((l.length : Int) < (I : Int) + (J : Int)) = false := decide_eq_false (by omega)
      have d2 : decide ((l.length : Int) < ((I + J : Nat) : Int)) = false := decide_eq_false (by omega)
      have d3 : decide (l.length < I + J) = false := decide_eq_false cL
      have hdl : (l.drop I).length = l.length - I := List.length_drop
      have e1 : cBytes l (I : Int) = (l.take I, l.drop I, 0) := cBytes_ok l I (by omega)
      have e2 : cBytes (l.drop I) (J : Int) = ((l.drop I).take J, (l.drop I).drop J, 0) := cBytes_ok _ J (by omega)
      have e3' : cBytes l ((I + J : Nat) : Int) = (l.take (I + J), l.drop (I + J), 0) := cBytes_ok l (I + J) (by omega)
      rw [e1] at HX6 HCC6 HY6
      rw [e2] at HCC6 HY6
      rw [e3'] at HDD6 HZ
      rw [e1, e3']
      simp only [e2]
      have HXY := Aside0.mk (show l.take I ++ (l.drop I).take J = l.take (I + J) from by rw [List.take_add])
      have HLL := Aside0.mk (show ((l.drop I).drop J).length = (l.drop (I + J)).length from by rw [List.drop_drop])
      have HLN := Aside0.mk (show (l.take I).length = I ∧ ((l.drop I).take J).length = J ∧ (l.take (I + J)).length = I + J from ⟨by rw [List.length_take]; omega, by rw [List.length_take]; omega, by rw [List.length_take]; omega⟩)
      have HDL := Aside0.mk (show (l.drop (I + J)).length ≤ 300 from by rw [List.length_drop]; have := HL.out; omega)
      clear hdl e1 e2 e3'
      generalize l.take I = rx at *
      generalize (l.drop I).take J = ry at *
      generalize l.take (I + J) = rz at *
      generalize (l.drop I).drop J = ly at *
      generalize l.drop (I + J) = lz at *
      obtain ⟨Q, hQ⟩ : ∃ Q : Nat, I % 8 = Q := ⟨_, rfl⟩
      obtain ⟨K, hK⟩ : ∃ K : Nat, Q % 5 = K := ⟨_, rfl⟩
      have m7 : Go.bits .and .i64 (I : Int) 7 = (Q : Int) := by rw [mask7 I, hQ]
      have m5 : Int.tmod (Q : Int) 5 = (K : Int) := by
        rw [Int.tmod_eq_emod_of_nonneg (by omega), ← hK]
        omega
      obtain ⟨M, hM1, hM2, hmin, hmin2⟩ : ∃ M : Nat, M ≤ 4 ∧ M ≤ l.length ∧ (if (l.length : Int) < (K : Int) then (l.length : Int) else (K : Int)) = (M : Int) ∧ (if l.length < K then (l.length : Int) else (K : Int)) = (M : Int) := by
        by_cases c : l.length < K
        · exact ⟨l.length, by omega, Nat.le_refl _, by rw [if_pos (by omega)], by rw [if_pos c]⟩
        · exact ⟨K, by omega, by omega, by rw [if_neg (by omega)], by rw [if_neg c]⟩
      clear hQ hK
      have HM := Aside0.mk (show M ≤ 4 ∧ M ≤ l.length from ⟨hM1, hM2⟩)
      clear hM1 hM2
      go_wp2_with (fail)
      refine (Left_any w _ gc ly HCC6.out).mono ?_
      rintro e wg ⟨rfl, ⟨n7, rfl⟩⟩
      go_wp2_with (fail)
      refine (Left_any w _ gd lz (HDD6.out.drewN _)).mono ?_
      rintro e wh ⟨rfl, ⟨n8, rfl⟩⟩
      rw [HLL.out]
      have HB7 := Aside0.mk (pw_below_drewN (pw_below_drewN HB6.out n7) n8)
      have HX7 := Aside0.mk (Kd.R_drewN (Kd.R_drewN HX6.out n7) n8)
      have HY7 := Aside0.mk (Kd.R_drewN (Kd.R_drewN HY6.out n7) n8)
      have HZ7 := Aside0.mk (Kd.R_drewN (Kd.R_drewN HZ.out n7) n8)
      clear HB6 HX6 HY6 HZ HCC6 HDD6
      generalize (wf.drewN n7).drewN n8 = wi at *
      go_wp2_with (fail)
      refine (New_any w _ _ _ l HB7.out (Kd.C_below HR.out HB7.out) HC.out (by have := HL.out; omega)).mono ?_
      rintro e wj ⟨g3, rfl, hc1, hg3, hb1, hb2⟩
      have HC8 := Aside0.mk hc1
      have HB8 := Aside0.mk hb1
      have HX8 := Aside0.mk (Kd.R_below HX7.out hb2)
      have HY8 := Aside0.mk (Kd.R_below HY7.out hb2)
      have HZ8 := Aside0.mk (Kd.R_below HZ7.out hb2)
      clear hc1 hg3 hb1 hb2 HB7 HX7 HY7 HZ7
      have HFX := Aside0.mk (show cFixed l (M : Int) = (be (l.take M) 0, l.drop M, 0) from by
        rw [cFixed_eq M (by have := HM.out; omega)]
        unfold fixedP
        rw [if_neg (by have := HM.out; omega)])
      have hFA := Fixed_any w _ g3 l (M : Int) HC8.out HB8.out (by have := HL.out; omega) HBY.out
      rw [HFX.out] at hFA
      have HFA := Aside0.mk hFA
      clear hFA
      go_wp2_with (fail)
      refine HFA.out.mono ?_
      rintro e wk ⟨rfl, hp⟩
      have HB9 := Aside0.mk hp.2.1
      have HX9 := Aside0.mk (R_cur HX8.out HC8.out (by decide) hp.2.2)
      have HY9 := Aside0.mk (R_cur HY8.out HC8.out (by decide) hp.2.2)
      have HZ9 := Aside0.mk (R_cur HZ8.out HC8.out (by decide) hp.2.2)
      clear hp HFA HX8 HY8 HZ8 HC8 HB8
      go_wp2_with (fail)
      go_loopg [21, 22] M (fun kq v21 v22 W' => ∃ i : Nat, v21 = .int .u64 (be (l.take i) 0) ∧ v22 = .int .i64 (i : Int) ∧ kq = M - i ∧ i ≤ M ∧ wk = W')
      case atStart => exact ⟨0, rfl, rfl, rfl, Nat.zero_le _, rfl⟩
      case round =>
        obtain ⟨i, rfl, rfl, rfl, hi, rfl⟩ := hrel
        by_cases hlt : i < M
        · have c5 : decide ((i : Int) < (M : Int)) = true := decide_eq_true (by omega)
          have c6 : decide (i < M) = true := decide_eq_true hlt
          have c7 : ((i : Int) < (l.length : Int)) = True := eq_true (by have := HM.out; omega)
          have c8 : (i < l.length) = True := eq_true (by have := HM.out; omega)
          have c9 : (0 ≤ (i : Int)) = True := eq_true (by omega)
          obtain ⟨ad2, e2, hx⟩ := Kd.at_int HR.out (i : Int) (by omega) (by have := HM.out; omega)
          subst e2
          rw [Int.toNat_natCast] at hx
          replace hx := (HB9.out.cell (World.block_lt_of_cell? w _ hx)).trans hx
          have hx0 := HBY.out _ (rd_mem l (i : Int) (by omega) (by have := HM.out; omega))
          have hb1 := be8 (l.take i) (HBY.out.take i) (by rw [List.length_take]; have := HM.out; omega)
          have hb2 := be8 (l.take (i + 1)) (HBY.out.take (i + 1)) (by rw [List.length_take]; have := HM.out; omega)
          have hs := be_take l i (by have := HM.out; omega)
          have HST := Aside0.mk (show IntKind.u64.wrap (IntKind.u64.wrap (be (l.take i) 0 * 256) + IntKind.u64.wrap (rd l (i : Int))) = be (l.take (i + 1)) 0 from by
            rw [wrapu64, wrapu64, wrapu64, hs]
            rw [hs] at hb2
            omega)
          have HW1 := Aside0.mk (show wrap64 ((i : Int) + 1) = ((i + 1 : Nat) : Int) from by have := HM.out; rw [wrap64_id (by omega) (by omega)]; omega)
          clear hx0 hb1 hb2 hs
          go_wp2_with (fail)
          go_roundg (M - (i + 1))
          case measure => exact (by have := HM.out; omega)
          case rel =>
            (try rw [HW1.out])
            (try rw [HST.out])
            exact ⟨i + 1, rfl, rfl, rfl, hlt, rfl⟩
        · have c5 : decide ((i : Int) < (M : Int)) = false := decide_eq_false (by omega)
          have c6 : decide (i < M) = false := decide_eq_false hlt
          obtain rfl : i = M := by omega
          obtain ⟨ks, hks⟩ := (CurL.same_ev rz rz (by have := HLN.out; have := HIJ.out; omega)).get
          rw [decide_eq_true rfl] at hks
          have HSM := Aside0.mk hks
          obtain ⟨A1, q1, e1⟩ := Kd.R_slice HX9.out
          subst e1
          obtain ⟨A2, q2, e2⟩ := Kd.R_slice HY9.out
          subst e2
          obtain ⟨A3, q3, e3⟩ := Kd.R_slice HZ9.out
          subst e3
          clear hks hlt hi
          go_wp2_with (first
            | ((with_reducible refine gate_dst (N := 130) rfl ?_); (try (refine gate_guard (by rfl) ?_; dsimp only)); refine Kd.R_lit (Kd.int .u8) _ 5 ?hg (N := 130) ?hd (xs := ([] : List Int)) (inner := []) (ok := fun _ => True) (okp := fun _ => True) ?hr ?hp (fun _ hk => hk) trivial (Below.refl _ _) (Nat.le_refl _) (by simp) ?_; (case hd => rfl); (case hg => rfl); (case hr => first | (go_simp; done) | (go_simp; rfl)); (case hp => exact (Reps.none _ _)); intro v130 w30 ho31 hb hg_ hnew_; have HX10 := Aside0.mk (Kd.R_elder' HX9.out (Kd.R_base ho31) hb); have HY10 := Aside0.mk (Kd.R_elder' HY9.out (Kd.R_base ho31) hb); have HZ10 := Aside0.mk (Kd.R_elder' HZ9.out (Kd.R_base ho31) hb); have HB10 := Aside0.mk (below_step HB9.out hb); have HO10 := Aside0.mk (Kd.R_lower ho31 HB9.out.size); clear hb ho31 hg_ hnew_)
            | ((with_reducible refine gate_builtin (b := .append) (xs := #[.tmp 130, .tmp 131]) rfl ?_); (try (refine gate_guard (by rfl) ?_; dsimp only)); at_builtin; go_loud (refine Kd.R_append_rows (Kd.int .u8) (w0 := w) w.heap.size rfl (.tmp 130) (.tmp 131) 22 5 (.int .u8 0) 1 rfl Try.underlying22 info5 rfl (by decide) (by omega) v130 [] rx A1 _ q1 (fun _ => True) (fun _ => False) rfl rfl HO10.out (Kd.R_reads' HX10.out).2.2 (fun _ _ h => h) (fun _ h => h.elim) (fun _ _ => trivial) HB10.out HB10.out.size (by have := HLN.out; have := HIJ.out; rw [List.length_nil]; omega) ?_; intro v132 w32 ho hb hg hat; have HO11 := Aside0.mk ho; have HB11 := Aside0.mk hb; have HY11 := Aside0.mk (Kd.R_after HY10.out hg hat); have HZ11 := Aside0.mk (Kd.R_after HZ10.out hg hat); clear ho hb hg hat))
            | ((with_reducible refine gate_builtin (b := .append) (xs := #[.tmp 132, .tmp 133]) rfl ?_); (try (refine gate_guard (by rfl) ?_; dsimp only)); at_builtin; go_loud (refine Kd.R_append_rows (Kd.int .u8) (w0 := w) w.heap.size rfl (.tmp 132) (.tmp 133) 22 5 (.int .u8 0) 1 rfl Try.underlying22 info5 rfl (by decide) (by omega) v132 ([] ++ rx) ry A2 _ q2 (fun _ => True) (fun _ => False) rfl rfl HO11.out (Kd.R_reads' HY11.out).2.2 (fun _ _ h => h) (fun _ h => h.elim) (fun _ _ => trivial) HB11.out HB11.out.size (by have := HLN.out; have := HIJ.out; rw [List.nil_append]; omega) ?_; intro v134 w34 ho hb hg hat; rw [List.nil_append, HXY.out] at ho; have HO12 := Aside0.mk ho; have HB12 := Aside0.mk hb; have HZ12 := Aside0.mk (Kd.R_after HZ11.out hg hat); clear ho hb hg hat; obtain ⟨A4, q4, e4⟩ := Kd.R_slice HO12.out; subst e4))
            | fail)
          refine (casketlaw03_same.calls ks _ _ rz _ _ rz true _ (Kd.R_reads' HO12.out).2.2 (Kd.R_reads' HO12.out).2.1 (Kd.R_reads' HZ12.out).2.2 (Kd.R_reads' HZ12.out).2.1 HSM.out).mono ?_
          rintro e w40 ⟨rfl, ⟨n10, rfl⟩⟩
          go_wp2_with (fail)
          go_ret
          exact ⟨rfl, pw_below_drewN HB12.out _⟩
end Go.Proofs.Ytcfkljhdjoepkaa.P
