/- The law GorillaMasks: the walk by hand, straight. -/
import Derived.Test.YtfpnoceppjjafaaDoorGmask
import Derived.WalkMore
import Derived.OneCell
import Derived.RegionTactic
import Derived.BigRegion
import Derived.Outline
import Derived.Deep.QuietTactic
import Derived.BigQuiet
import Derived.Test.YtfpnoceppjjafaaDoorPx6
import Derived.Test.YtfpnoceppjjafaaDoorPx4
import Derived.Test.YtfpnoceppjjafaaDoorGenc
namespace Go.Proofs.YtfpnoceppjjafaaDoor.P
open Go.RowKit Go.Proofs.YtfpnoceppjjafaaDoor.Kit Go.Proofs.YtfpnoceppjjafaaDoor.Var Go.Proofs.YtfpnoceppjjafaaDoorW.PrintWords Go.Proofs.YtfpnoceppjjafaaDoorW.PrintLast Go.Proofs.YtfpnoceppjjafaaDoorW.PrintMore
set_option linter.unusedVariables false
set_option linter.unusedSimpArgs false
theorem mask10 (a : Int) : Go.bits .and .i64 a 1023 = ((a % 1024).toNat : Int) := by
  have h := and_mask a 10 (by omega)
  rw [show (2 : Int) ^ 10 = 1024 by decide] at h
  rw [show (1023 : Int) = 1024 - 1 by decide, h]
  omega
/-- Nothing plain is left to show. -/
def casketlaw09_GorillaMasks.Pure : Prop := True
set_option maxHeartbeats 4000000 in
set_option maxRecDepth 100000 in
theorem casketlaw09_GorillaMasks.walk (P : casketlaw09_GorillaMasks.Pure) (a0 : Option Addr) (len0 cap0 : Nat) (z0 : List Int) (a1 : Int) (a2 : Int) (w : World)
    (h0 : (a0 = none ∧ len0 = 0 ∧ cap0 = 0 ∧ z0 = []) ∨ ∃ x, a0 = some x ∧ len0 ≤ cap0 ∧ cap0 ≤ maxLen ∧ z0.length = cap0 ∧ (∀ i, i < z0.length → w.cell? (x.add i) = some (.int .u64 (z0.getD i 0))) ∧ ∀ n ∈ z0, (Lit.int .u64 n).wf = true) (y0 : len0 * 8 ≤ 140737488351232)
    (h1 : (Lit.int .u64 a1).wf = true) (h2 : (Lit.int .i64 a2).wf = true) (hT : Tab w) :
    Calls Tryd.prog 7 #[.slice a0 len0 cap0, .int .u64 a1, .int .i64 a2] w fun e w' => e = .returned (.bool true) ∧ Below w.heap.size w w' := by
  obtain ⟨l, rfl, hr, hm, hw, hc⟩ := ReadsInt.ofRowC h0
  have HR := Aside0.mk (Kd.C_of_reads (d := (0 : Int)) (h1 := fun _ => rfl) hr)
  have HC := Aside0.mk hc
  have HT := Aside0.mk hT
  have HU := Aside0.mk (u_of hw)
  have hma : U a1 := by
    have := wfu64 h1
    exact ⟨this.1, by omega⟩
  have HMA := Aside0.mk hma
  obtain ⟨ka, hka⟩ := awake_ev.get
  have HA := Aside0.mk (casketlaw09_awake.calls ka true w hka hT)
  have m1 := mask10 a2
  obtain ⟨Q, hQ⟩ : ∃ Q : Nat, (a2 % 1024).toNat = Q := ⟨_, rfl⟩
  rw [hQ] at m1
  have HQ := Aside0.mk (show Q < 1024 by omega)
  clear h0 h1 h2 hr hm hw hc hka hT hma hQ
  by_cases z1 : l.length = 0
  · have e1 : ((l.length : Int) == 0) = true := by rw [z1]; rfl
    have e2 : (l.length == 0) = true := by rw [z1]; rfl
    have HZ := Aside0.mk z1
    clear z1
    go_enter Tryd.func7, Tryd.ntmps7
    go_wp2_with (fail)
    refine HA.out.mono ?_
    rintro e wa ⟨rfl, hb⟩
    have HB := Aside0.mk hb
    clear hb HA
    go_wp2_with (fail)
    go_ret
    exact ⟨rfl, HB.out⟩
  have e1 : ((l.length : Int) == 0) = false := by rw [beq_eq_false_iff_ne]; omega
  have e2 : (l.length == 0) = false := by rw [beq_eq_false_iff_ne]; omega
  by_cases c2 : 300 < l.length
  · have e3 : decide (300 < (l.length : Int)) = true := decide_eq_true (by omega)
    have e4 : decide (300 < l.length) = true := decide_eq_true c2
    clear z1
    go_enter Tryd.func7, Tryd.ntmps7
    go_wp2_with (fail)
    refine HA.out.mono ?_
    rintro e wa ⟨rfl, hb⟩
    have HB := Aside0.mk hb
    clear hb HA
    go_wp2_with (fail)
    go_ret
    exact ⟨rfl, HB.out⟩
  have e3 : decide (300 < (l.length : Int)) = false := decide_eq_false (by omega)
  have e4 : decide (300 < l.length) = false := decide_eq_false c2
  have HL := Aside0.mk (show 0 < l.length ∧ l.length ≤ 300 from ⟨by omega, by omega⟩)
  have HM0 := Aside0.mk (mk_len l a1)
  have HMT := Aside0.mk (show (mk l a1).take l.length = mk l a1 from by rw [← mk_len l a1]; exact List.take_length)
  have HMS := Aside0.mk (show ∀ i, i < l.length → (mk l a1).take i ++ [xw (rd l (i : Int)) a1] = (mk l a1).take (i + 1) from fun i hi => by
    rw [← mk_rd hi]
    exact take_rd (by rw [mk_len]; exact hi))
  have HEM := Aside0.mk (enc_mask HU.out HMA.out HL.out.1 (by have := HL.out; omega))
  have HED := Aside0.mk (enc_drop HL.out.1 (by have := HL.out; omega))
  have HED2 := Aside0.mk (enc_drop (l := mk l a1) (by rw [mk_len]; exact HL.out.1) (by rw [mk_len]; have := HL.out; omega))
  have HEL := Aside0.mk (gEnc_len HU.out)
  have HEL2 := Aside0.mk (gEnc_len (mk_U HU.out HMA.out))
  have HF1 := Aside0.mk (Enc_f HU.out (by have := HL.out; omega))
  have HF2 := Aside0.mk (Enc_f (mk_U HU.out HMA.out) (by rw [mk_len]; have := HL.out; omega))
  have HZ1 := Aside0.mk (show (gEnc l).2 = 0 from by rw [gEnc_of (by have := HL.out; omega)])
  have HZ2 := Aside0.mk (show (gEnc (mk l a1)).2 = 0 from by rw [gEnc_of (by rw [mk_len]; have := HL.out; omega)])
  rw [show gEnc l = ((gEnc l).1, 0) from Prod.ext rfl HZ1.out] at HF1
  rw [show gEnc (mk l a1) = ((gEnc (mk l a1)).1, 0) from Prod.ext rfl HZ2.out] at HF2
  clear HZ1 HZ2
  generalize (gEnc l).1 = LA at *
  generalize (gEnc (mk l a1)).1 = LB at *
  generalize mk l a1 = M at *
  have hkk : wrap64 (1 + (Q : Int)) = ((1 + Q : Nat) : Int) := by have := HQ.out; rw [wrap64_id (by omega) (by omega)]; omega
  obtain ⟨K, hK⟩ : ∃ K : Nat, 1 + Q = K := ⟨_, rfl⟩
  rw [hK] at hkk
  have HK := Aside0.mk (show 0 < K ∧ K ≤ 1024 from by have := HQ.out; omega)
  have HRU := Aside0.mk (show ∀ x ∈ List.replicate K a1, U x from fun x hx => by rw [List.eq_of_mem_replicate hx]; exact HMA.out)
  have HER := Aside0.mk (enc_rep HMA.out HK.out.1 (by have := HK.out; omega))
  have HF3 := Aside0.mk (Enc_f HRU.out (by rw [List.length_replicate]; have := HK.out; omega))
  rw [show gEnc (List.replicate K a1) = ((gEnc (List.replicate K a1)).1, 0) from Prod.ext rfl HER.out.1] at HF3
  replace HER := Aside0.mk HER.out.2
  generalize (gEnc (List.replicate K a1)).1 = LC at *
  have HRL := Aside0.mk (show ∀ i : Nat, (List.replicate i a1).length = i ∧ List.replicate i a1 ++ [a1] = List.replicate (i + 1) a1 from fun i => ⟨List.length_replicate, (List.replicate_succ').symm⟩)
  clear z1 c2 hK
  go_enter Tryd.func7, Tryd.ntmps7
  go_wp2_with (fail)
  refine HA.out.mono ?_
  rintro e wa ⟨rfl, hb⟩
  have HB1 := Aside0.mk hb
  clear hb HA
  go_wp2_with (fail)
  go_loopg [8, 9] l.length (fun kq v8 v9 W' => ∃ (i : Nat) (out : List Int), v9 = .int .i64 (i : Int) ∧ kq = l.length - i ∧ i ≤ l.length ∧ Aside0 (out = M.take i) ∧ Aside0 (Below w.heap.size w W') ∧ Aside0 (Kd.R (Kd.int .u64) 35 W' w.heap.size (fun _ => True) v8 out))
  case atStart => exact ⟨0, [], rfl, rfl, Nat.zero_le _, ⟨(List.take_zero).symm⟩, HB1, ⟨Kd.R_nil _ _ _ _ _⟩⟩
  case round =>
    clear HB1 e1 e2 e3 e4
    obtain ⟨i, out, rfl, rfl, hi, HOE, HB, HO⟩ := hrel
    by_cases hlt : i < l.length
    · have c3 : decide ((i : Int) < (l.length : Int)) = true := decide_eq_true (by omega)
      have c4 : decide (i < l.length) = true := decide_eq_true hlt
      have HW := Aside0.mk (show wrap64 ((i : Int) + 1) = ((i + 1 : Nat) : Int) from by have := HL.out; rw [wrap64_id (by omega) (by omega)]; omega)
      obtain ⟨ad2, e2, hx⟩ := Kd.at_int HR.out (i : Int) (by omega) (by omega)
      subst e2
      rw [Int.toNat_natCast] at hx
      replace hx := (HB.out.cell (World.block_lt_of_cell? w _ hx)).trans hx
      obtain ⟨X, hX⟩ : ∃ X : Int, xw (rd l (i : Int)) a1 = X := ⟨_, rfl⟩
      have hdx : Go.bits .xor .u64 (rd l (i : Int)) a1 = X := hX
      have HNX := Aside0.mk (show out ++ [X] = M.take (i + 1) from by rw [HOE.out, ← hX]; exact HMS.out i hlt)
      have HOL := Aside0.mk (show out.length ≤ 300 from by rw [HOE.out, List.length_take, HM0.out]; have := HL.out; omega)
      clear hX
      go_wp2_with (first
        | ((with_reducible refine gate_builtin (b := .append) (xs := #[.tmp 35, .tmp 42]) rfl ?_); at_builtin; refine Kd.R_append (Kd.int .u64) (w0 := w) w.heap.size rfl (.tmp 35) (.tmp 42) 22 35 (.int .u64 0) 8 rfl Tryd.underlying22 infoU rfl (by decide) (by omega) u8 out X [.int .u64 X] (fun _ => True) (fun _ => False) rfl rfl rfl (fun _ hk => hk.elim) (fun _ _ => trivial) HO.out HB.out (below_size HB.out) (by have := HOL.out; omega) ?_; intro v1 w9 ho hb hg hat; have HB9 := Aside0.mk hb; have HO9 := Aside0.mk ho; clear ho hb hg hat))
      go_roundg (l.length - (i + 1))
      case measure => exact (by have := HL.out; omega)
      case rel =>
        (try rw [HW.out])
        exact ⟨i + 1, out ++ [X], rfl, rfl, hlt, HNX, HB9, HO9⟩
    · have c3 : decide ((i : Int) < (l.length : Int)) = false := decide_eq_false (by omega)
      have c4 : decide (i < l.length) = false := decide_eq_false hlt
      have HOM := Aside0.mk (show out = M from by rw [HOE.out, show i = l.length by omega]; exact HMT.out)
      clear hlt hi
      rw [HOM.out] at HO
      obtain ⟨AM, cM, eM⟩ := Kd.R_slice HO.out
      subst eM
      clear HOE HOM
      go_wp2_with (fail)
      refine (gorilla_Encode.calls a0 cap0 l LA 0 _ (Kd.C_below HR.out HB.out) HC.out HF1.out (Tab.below HT.out HB.out)).mono ?_
      rintro e wb ⟨vA, rfl, ho, hb⟩
      have HA2 := Aside0.mk (Kd.R_lower ho (below_size HB.out))
      have HM2 := Aside0.mk (Kd.R_below HO.out hb)
      have HB2 := Aside0.mk (below_step HB.out hb)
      clear ho hb HB HO
      obtain ⟨AA, cA, eA⟩ := Kd.R_slice HA2.out
      subst eA
      go_wp2_with (fail)
      refine (gorilla_Encode.calls AM cM M LB 0 _ (Kd.R_reads' HM2.out).2.2 (Kd.R_reads' HM2.out).2.1 HF2.out (Tab.below HT.out HB2.out)).mono ?_
      rintro e wc ⟨vB, rfl, ho, hb⟩
      have HBB := Aside0.mk (Kd.R_lower ho (below_size HB2.out))
      have HA3 := Aside0.mk (Kd.R_below HA2.out hb)
      have HB3 := Aside0.mk (below_step HB2.out hb)
      clear ho hb HB2 HA2 HM2
      obtain ⟨AB, cB, eB⟩ := Kd.R_slice HBB.out
      subst eB
      go_wp2_with (fail)
      rw [hkk]
      go_loopg [15, 16] K (fun kq v15 v16 W' => ∃ (j : Nat) (out : List Int), v16 = .int .i64 (j : Int) ∧ kq = K - j ∧ j ≤ K ∧ Aside0 (out = List.replicate j a1) ∧ Aside0 (Below w.heap.size w W') ∧ Aside0 (Below wc.heap.size wc W') ∧ Aside0 (Kd.R (Kd.int .u64) 35 W' wc.heap.size (fun _ => True) v15 out))
      case atStart => exact ⟨0, [], rfl, rfl, Nat.zero_le _, ⟨rfl⟩, HB3, ⟨Below.refl _ _⟩, ⟨Kd.R_nil _ _ _ _ _⟩⟩
      case round =>
        obtain ⟨j, out, rfl, rfl, hj, HOE, HB4, HC4, HO⟩ := hrel
        by_cases hlt : j < K
        · have c5 : decide ((j : Int) < (K : Int)) = true := decide_eq_true (by omega)
          have c6 : decide (j < K) = true := decide_eq_true hlt
          have HW := Aside0.mk (show wrap64 ((j : Int) + 1) = ((j + 1 : Nat) : Int) from by have := HK.out; rw [wrap64_id (by omega) (by omega)]; omega)
          have HNX := Aside0.mk (show out ++ [a1] = List.replicate (j + 1) a1 from by rw [HOE.out]; exact (HRL.out j).2)
          have HOL := Aside0.mk (show out.length ≤ 1024 from by rw [HOE.out, (HRL.out j).1]; have := HK.out; omega)
          have HSZ := Aside0.mk (below_size HB3.out)
          go_wp2_with (first
            | ((with_reducible refine gate_builtin (b := .append) (xs := #[.tmp 62, .tmp 64]) rfl ?_); at_builtin; refine Kd.R_append (Kd.int .u64) (w0 := wc) wc.heap.size rfl (.tmp 62) (.tmp 64) 22 35 (.int .u64 0) 8 rfl Tryd.underlying22 infoU rfl (by decide) (by omega) u15 out a1 [.int .u64 a1] (fun _ => True) (fun _ => False) rfl rfl rfl (fun _ hk => hk.elim) (fun _ _ => trivial) HO.out HC4.out (below_size HC4.out) (by have := HOL.out; omega) ?_; intro v1 w9 ho hb hg hat; have HC9 := Aside0.mk hb; have HB9 := Aside0.mk (below_then HB3.out HSZ.out hb); have HO9 := Aside0.mk ho; clear ho hb hg hat))
          go_roundg (K - (j + 1))
          case measure => exact (by have := HK.out; omega)
          case rel =>
            (try rw [HW.out])
            exact ⟨j + 1, out ++ [a1], rfl, rfl, hlt, HNX, HB9, HC9, HO9⟩
        · have c5 : decide ((j : Int) < (K : Int)) = false := decide_eq_false (by omega)
          have c6 : decide (j < K) = false := decide_eq_false hlt
          have HOM := Aside0.mk (show out = List.replicate K a1 from by rw [HOE.out, show j = K by omega])
          rw [HOM.out] at HO
          clear hlt hj HOE HOM
          obtain ⟨RK, hRK⟩ : ∃ RK, List.replicate K a1 = RK := ⟨_, rfl⟩
          rw [hRK] at HO HF3
          have HRK := Aside0.mk hRK
          clear hRK
          obtain ⟨AR, cR, eR⟩ := Kd.R_slice HO.out
          subst eR
          have HA4 := Aside0.mk (Kd.R_below HA3.out HC4.out)
          have HBB4 := Aside0.mk (Kd.R_below HBB.out HC4.out)
          clear HA3 HBB HB3 HC4
          go_wp2_with (fail)
          refine (gorilla_Encode.calls AR cR RK LC 0 _ (Kd.R_reads' HO.out).2.2 (Kd.R_reads' HO.out).2.1 HF3.out (Tab.below HT.out HB4.out)).mono ?_
          rintro e wd ⟨vC, rfl, ho, hb⟩
          obtain ⟨AC, cC, eC⟩ := Kd.R_slice ho
          subst eC
          have HA5 := Aside0.mk (Kd.R_reads' (Kd.R_below HA4.out hb))
          have HBB5 := Aside0.mk (Kd.R_reads' (Kd.R_below HBB4.out hb))
          have HB5 := Aside0.mk (below_step HB4.out hb)
          clear ho hb HO HA4 HBB4 HB4
          obtain ⟨i012, hi012, _, hsz12, _⟩ := info_parts info5
          have hq1 : (8 : Int) ≤ (LA.length : Int) := by have := HED.out.2; omega
          have hq2 : (8 : Int) ≤ (LB.length : Int) := by have := HED2.out.2; omega
          have hcut1 := cut_from (P := Tryd.prog) 24 5 .i64 Tryd.underlying24 hi012 1 hsz12 AA LA.length cA 8 (by decide) hq1
          have hcut2 := cut_from (P := Tryd.prog) 24 5 .i64 Tryd.underlying24 hi012 1 hsz12 AB LB.length cB 8 (by decide) hq2
          have hr1 := Kd.C_drop (m := 8) (c := cA) HA5.out.2.2 (by omega) HA5.out.2.1
          have hr2 := Kd.C_drop (m := 8) (c := cB) HBB5.out.2.2 (by omega) HBB5.out.2.1
          obtain ⟨A8, hA8⟩ : ∃ A1, (if cA = (8 : Int).toNat then AA else AA.map (·.add ((8 : Int).toNat * 1))) = A1 := ⟨_, rfl⟩
          obtain ⟨B8, hB8⟩ : ∃ A1, (if cB = (8 : Int).toNat then AB else AB.map (·.add ((8 : Int).toNat * 1))) = A1 := ⟨_, rfl⟩
          rw [hA8] at hcut1
          rw [hB8] at hcut2
          replace hr1 : Kd.C (Kd.int .u8) wd A8 (LA.drop 8).length (LA.drop 8) := by rw [← hA8]; exact hr1
          replace hr2 : Kd.C (Kd.int .u8) wd B8 (LB.drop 8).length (LB.drop 8) := by rw [← hB8]; exact hr2
          rw [HEM.out] at hr2
          have hl1 : LA.length - (8 : Int).toNat = (LA.drop 8).length := by rw [List.length_drop]; rfl
          have hl2 : LB.length - (8 : Int).toNat = (LA.drop 8).length := by rw [← HEM.out, List.length_drop]; rfl
          rw [hl1] at hcut1
          rw [hl2] at hcut2
          obtain ⟨D, hD⟩ : ∃ D, LA.drop 8 = D := ⟨_, rfl⟩
          have hdl : D.length ≤ 630784 := by rw [← hD, List.length_drop]; have := HEL.out; omega
          have hc1 : D.length ≤ cA - (8 : Int).toNat := by rw [← hD, List.length_drop]; have := HA5.out.2.1; exact Nat.sub_le_sub_right this 8
          have hc2 : D.length ≤ cB - (8 : Int).toNat := by rw [← hD, ← HEM.out, List.length_drop]; have := HBB5.out.2.1; exact Nat.sub_le_sub_right this 8
          rw [hD] at hr1 hr2 hcut1 hcut2
          obtain ⟨c8, hc8⟩ : ∃ c8, cA - (8 : Int).toNat = c8 := ⟨_, rfl⟩
          obtain ⟨d8, hd8⟩ : ∃ d8, cB - (8 : Int).toNat = d8 := ⟨_, rfl⟩
          rw [hc8] at hcut1 hc1
          rw [hd8] at hcut2 hc2
          obtain ⟨ks, hks⟩ := (Same1_self D (by omega)).get
          have HKS := Aside0.mk hks
          have HR1 := Aside0.mk hr1
          have HR2 := Aside0.mk hr2
          have HC1 := Aside0.mk hc1
          have HC2 := Aside0.mk hc2
          obtain ⟨K1, hK1⟩ : ∃ K1 : Nat, K - 1 = K1 := ⟨_, rfl⟩
          have hk1 : wrap64 ((K : Int) - 1) = (K1 : Int) := by have := HK.out; rw [wrap64_id (by omega) (by omega)]; omega
          have hk2 : wrap64 ((K1 : Int) + 7) = ((K1 + 7 : Nat) : Int) := by have := HK.out; rw [wrap64_id (by omega) (by omega)]; omega
          obtain ⟨K2, hK2⟩ : ∃ K2 : Nat, K1 + 7 = K2 := ⟨_, rfl⟩
          rw [hK2] at hk2
          have hk3 : wrap64 ((K2 : Int) / 8) = ((K2 / 8 : Nat) : Int) := by have := HK.out; rw [wrap64_id (by omega) (by omega)]; omega
          obtain ⟨K3, hK3⟩ : ∃ K3 : Nat, K2 / 8 = K3 := ⟨_, rfl⟩
          rw [hK3] at hk3
          have hk4 : wrap64 (8 + (K3 : Int)) = (LC.length : Int) := by have := HK.out; rw [wrap64_id (by omega) (by omega), HER.out]; omega
          have hk5 : ((LC.length : Int) == (LC.length : Int)) = true := beq_self_eq_true _
          have hg1 : decide (8 ≤ (LA.length : Int)) = true := decide_eq_true hq1
          have hg2 : decide (8 ≤ (LB.length : Int)) = true := decide_eq_true hq2
          clear hr1 hr2 hc1 hc2 hks hdl hD hl1 hl2 hA8 hB8 hc8 hd8 hK1 hK2 hK3 hi012 hsz12
          go_upto_region 18 with (fail)
          refine start_ (n := 41) (S := fun w' => True) (ds := []) #[false, false, false, false, false, false, false, false, false, false, false, false, false, false, false, false, false, false, false, false, false, false, false, false, false, false, false, false, false, false, false, false, false, false, false, false, false, false, false, false, false] (by kernel_rfl) rfl rfl (trivial) (fun hHeld => ?_)
          refine pure_ (i := 0) (N := some 71) (v := ?_) (a' := ?_) #[true, false, false, false, false, false, false, false, false, false, false, false, false, false, false, false, false, false, false, false, false, false, false, false, false, false, false, false, false, false, false, false, false, false, false, false, false, false, false, false, false] rfl rfl (by kernel_rfl) (fun _ _ _ h => h) (Or.inl ⟨by rfl, ?_⟩) ?_ ?_
          rotate_left
          · intro w'
            go_simp
            with_reducible rfl
          rotate_left
          · simp only [Act.put, List.setIfInBounds_toArray, List.set_cons_zero, List.set_cons_succ, i64_w, i32_w]
            rfl
          refine pure_ (i := 1) (N := some 72) (v := ?_) (a' := ?_) #[true, true, false, false, false, false, false, false, false, false, false, false, false, false, false, false, false, false, false, false, false, false, false, false, false, false, false, false, false, false, false, false, false, false, false, false, false, false, false, false, false] rfl rfl (by kernel_rfl) (fun _ _ _ h => h) (Or.inl ⟨by rfl, ?_⟩) ?_ ?_
          rotate_left
          · intro w'
            go_simp
            with_reducible rfl
          rotate_left
          · simp only [Act.put, List.setIfInBounds_toArray, List.set_cons_zero, List.set_cons_succ, i64_w, i32_w]
            rfl
          refine pure_ (i := 2) (N := some 73) (v := ?_) (a' := ?_) #[true, true, true, false, false, false, false, false, false, false, false, false, false, false, false, false, false, false, false, false, false, false, false, false, false, false, false, false, false, false, false, false, false, false, false, false, false, false, false, false, false] rfl rfl (by kernel_rfl) (fun _ _ _ h => h) (Or.inl ⟨by rfl, ?_⟩) ?_ ?_
          rotate_left
          · intro w'
            go_simp
            with_reducible rfl
          rotate_left
          · simp only [Act.put, List.setIfInBounds_toArray, List.set_cons_zero, List.set_cons_succ, i64_w, i32_w]
            rfl
          refine pure_ (i := 3) (N := some 74) (v := ?_) (a' := ?_) #[true, true, true, true, false, false, false, false, false, false, false, false, false, false, false, false, false, false, false, false, false, false, false, false, false, false, false, false, false, false, false, false, false, false, false, false, false, false, false, false, false] rfl rfl (by kernel_rfl) (fun _ _ _ h => h) (Or.inl ⟨by rfl, ?_⟩) ?_ ?_
          rotate_left
          · intro w'
            go_simp
            with_reducible rfl
          rotate_left
          · simp only [Act.put, List.setIfInBounds_toArray, List.set_cons_zero, List.set_cons_succ, i64_w, i32_w]
            rfl
          refine pure_ (i := 4) (N := some 75) (v := ?_) (a' := ?_) #[true, true, true, true, true, false, false, false, false, false, false, false, false, false, false, false, false, false, false, false, false, false, false, false, false, false, false, false, false, false, false, false, false, false, false, false, false, false, false, false, false] rfl rfl (by kernel_rfl) (fun _ _ _ h => h) (Or.inl ⟨by rfl, ?_⟩) ?_ ?_
          rotate_left
          · intro w'
            go_simp
            with_reducible rfl
          rotate_left
          · simp only [Act.put, List.setIfInBounds_toArray, List.set_cons_zero, List.set_cons_succ, i64_w, i32_w]
            rfl
          refine pure_ (i := 5) (N := some 76) (v := ?_) (a' := ?_) #[true, true, true, true, true, true, false, false, false, false, false, false, false, false, false, false, false, false, false, false, false, false, false, false, false, false, false, false, false, false, false, false, false, false, false, false, false, false, false, false, false] rfl rfl (by kernel_rfl) (fun _ _ _ h => h) (Or.inl ⟨by rfl, ?_⟩) ?_ ?_
          rotate_left
          · intro w'
            go_simp
            with_reducible rfl
          rotate_left
          · simp only [Act.put, List.setIfInBounds_toArray, List.set_cons_zero, List.set_cons_succ, i64_w, i32_w]
            rfl
          refine pure_ (i := 6) (N := some 77) (v := ?_) (a' := ?_) #[true, true, true, true, true, true, true, false, false, false, false, false, false, false, false, false, false, false, false, false, false, false, false, false, false, false, false, false, false, false, false, false, false, false, false, false, false, false, false, false, false] rfl rfl (by kernel_rfl) (fun _ _ _ h => h) (Or.inl ⟨by rfl, ?_⟩) ?_ ?_
          rotate_left
          · intro w'
            go_simp
            with_reducible rfl
          rotate_left
          · simp only [Act.put, List.setIfInBounds_toArray, List.set_cons_zero, List.set_cons_succ, i64_w, i32_w]
            rfl
          refine pure_ (i := 7) (N := some 78) (v := ?_) (a' := ?_) #[true, true, true, true, true, true, true, true, false, false, false, false, false, false, false, false, false, false, false, false, false, false, false, false, false, false, false, false, false, false, false, false, false, false, false, false, false, false, false, false, false] rfl rfl (by kernel_rfl) (fun _ _ _ h => h) (Or.inl ⟨by rfl, ?_⟩) ?_ ?_
          rotate_left
          · intro w'
            go_simp
            with_reducible rfl
          rotate_left
          · simp only [Act.put, List.setIfInBounds_toArray, List.set_cons_zero, List.set_cons_succ, i64_w, i32_w]
            rfl
          refine pure_ (i := 8) (N := some 79) (v := ?_) (a' := ?_) #[true, true, true, true, true, true, true, true, true, false, false, false, false, false, false, false, false, false, false, false, false, false, false, false, false, false, false, false, false, false, false, false, false, false, false, false, false, false, false, false, false] rfl rfl (by kernel_rfl) (fun _ _ _ h => h) (Or.inl ⟨by rfl, ?_⟩) ?_ ?_
          rotate_left
          · intro w'
            go_simp
            with_reducible rfl
          rotate_left
          · simp only [Act.put, List.setIfInBounds_toArray, List.set_cons_zero, List.set_cons_succ, i64_w, i32_w]
            rfl
          refine pure_ (i := 9) (N := some 80) (v := ?_) (a' := ?_) #[true, true, true, true, true, true, true, true, true, true, false, false, false, false, false, false, false, false, false, false, false, false, false, false, false, false, false, false, false, false, false, false, false, false, false, false, false, false, false, false, false] rfl rfl (by kernel_rfl) (fun _ _ _ h => h) (Or.inl ⟨by rfl, ?_⟩) ?_ ?_
          rotate_left
          · intro w'
            go_simp
            with_reducible rfl
          rotate_left
          · simp only [Act.put, List.setIfInBounds_toArray, List.set_cons_zero, List.set_cons_succ, i64_w, i32_w]
            rfl
          refine pure_ (i := 10) (N := some 81) (v := ?_) (a' := ?_) #[true, true, true, true, true, true, true, true, true, true, true, false, false, false, false, false, false, false, false, false, false, false, false, false, false, false, false, false, false, false, false, false, false, false, false, false, false, false, false, false, false] rfl rfl (by kernel_rfl) (fun _ _ _ h => h) (Or.inl ⟨by rfl, ?_⟩) ?_ ?_
          rotate_left
          · intro w'
            go_simp
            with_reducible rfl
          rotate_left
          · simp only [Act.put, List.setIfInBounds_toArray, List.set_cons_zero, List.set_cons_succ, i64_w, i32_w]
            rfl
          refine pure_ (i := 11) (N := some 82) (v := ?_) (a' := ?_) #[true, true, true, true, true, true, true, true, true, true, true, true, false, false, false, false, false, false, false, false, false, false, false, false, false, false, false, false, false, false, false, false, false, false, false, false, false, false, false, false, false] rfl rfl (by kernel_rfl) (fun _ _ _ h => h) (Or.inl ⟨by rfl, ?_⟩) ?_ ?_
          rotate_left
          · intro w'
            go_simp
            with_reducible rfl
          rotate_left
          · simp only [Act.put, List.setIfInBounds_toArray, List.set_cons_zero, List.set_cons_succ, i64_w, i32_w]
            rfl
          refine pure_ (i := 12) (N := some 83) (v := ?_) (a' := ?_) #[true, true, true, true, true, true, true, true, true, true, true, true, true, false, false, false, false, false, false, false, false, false, false, false, false, false, false, false, false, false, false, false, false, false, false, false, false, false, false, false, false] rfl rfl (by kernel_rfl) (fun _ _ _ h => h) (Or.inl ⟨by rfl, ?_⟩) ?_ ?_
          rotate_left
          · intro w'
            go_simp
            with_reducible rfl
          rotate_left
          · simp only [Act.put, List.setIfInBounds_toArray, List.set_cons_zero, List.set_cons_succ, i64_w, i32_w]
            rfl
          refine pure_ (i := 13) (N := some 84) (v := ?_) (a' := ?_) #[true, true, true, true, true, true, true, true, true, true, true, true, true, true, false, false, false, false, false, false, false, false, false, false, false, false, false, false, false, false, false, false, false, false, false, false, false, false, false, false, false] rfl rfl (by kernel_rfl) (fun _ _ _ h => h) (Or.inl ⟨by rfl, ?_⟩) ?_ ?_
          rotate_left
          · intro w'
            go_simp
            with_reducible rfl
          rotate_left
          · simp only [Act.put, List.setIfInBounds_toArray, List.set_cons_zero, List.set_cons_succ, i64_w, i32_w]
            rfl
          refine pure_ (i := 14) (N := some 85) (v := ?_) (a' := ?_) #[true, true, true, true, true, true, true, true, true, true, true, true, true, true, true, false, false, false, false, false, false, false, false, false, false, false, false, false, false, false, false, false, false, false, false, false, false, false, false, false, false] rfl rfl (by kernel_rfl) (fun _ _ _ h => h) (Or.inl ⟨by rfl, ?_⟩) ?_ ?_
          rotate_left
          · intro w'
            go_simp
            with_reducible rfl
          rotate_left
          · simp only [Act.put, List.setIfInBounds_toArray, List.set_cons_zero, List.set_cons_succ, i64_w, i32_w]
            rfl
          refine pure_ (i := 15) (N := some 86) (v := ?_) (a' := ?_) #[true, true, true, true, true, true, true, true, true, true, true, true, true, true, true, true, false, false, false, false, false, false, false, false, false, false, false, false, false, false, false, false, false, false, false, false, false, false, false, false, false] rfl rfl (by kernel_rfl) (fun _ _ _ h => h) (Or.inl ⟨by rfl, ?_⟩) ?_ ?_
          rotate_left
          · intro w'
            go_simp
            with_reducible rfl
          rotate_left
          · simp only [Act.put, List.setIfInBounds_toArray, List.set_cons_zero, List.set_cons_succ, i64_w, i32_w]
            rfl
          refine pure_ (i := 16) (N := some 87) (v := ?_) (a' := ?_) #[true, true, true, true, true, true, true, true, true, true, true, true, true, true, true, true, true, false, false, false, false, false, false, false, false, false, false, false, false, false, false, false, false, false, false, false, false, false, false, false, false] rfl rfl (by kernel_rfl) (fun _ _ _ h => h) (Or.inl ⟨by rfl, ?_⟩) ?_ ?_
          rotate_left
          · intro w'
            go_simp
            with_reducible rfl
          rotate_left
          · simp only [Act.put, List.setIfInBounds_toArray, List.set_cons_zero, List.set_cons_succ, i64_w, i32_w]
            rfl
          refine pure_ (i := 17) (N := some 88) (v := ?_) (a' := ?_) #[true, true, true, true, true, true, true, true, true, true, true, true, true, true, true, true, true, true, false, false, false, false, false, false, false, false, false, false, false, false, false, false, false, false, false, false, false, false, false, false, false] rfl rfl (by kernel_rfl) (fun _ _ _ h => h) (Or.inl ⟨by rfl, ?_⟩) ?_ ?_
          rotate_left
          · intro w'
            go_simp
            with_reducible rfl
          rotate_left
          · simp only [Act.put, List.setIfInBounds_toArray, List.set_cons_zero, List.set_cons_succ, i64_w, i32_w]
            rfl
          refine pure_ (i := 18) (N := some 89) (v := ?_) (a' := ?_) #[true, true, true, true, true, true, true, true, true, true, true, true, true, true, true, true, true, true, true, false, false, false, false, false, false, false, false, false, false, false, false, false, false, false, false, false, false, false, false, false, false] rfl rfl (by kernel_rfl) (fun _ _ _ h => h) (Or.inl ⟨by rfl, ?_⟩) ?_ ?_
          rotate_left
          · intro w'
            go_simp
            with_reducible rfl
          rotate_left
          · simp only [Act.put, List.setIfInBounds_toArray, List.set_cons_zero, List.set_cons_succ, i64_w, i32_w]
            rfl
          refine pure_ (i := 19) (N := some 90) (v := ?_) (a' := ?_) #[true, true, true, true, true, true, true, true, true, true, true, true, true, true, true, true, true, true, true, true, false, false, false, false, false, false, false, false, false, false, false, false, false, false, false, false, false, false, false, false, false] rfl rfl (by kernel_rfl) (fun _ _ _ h => h) (Or.inl ⟨by rfl, ?_⟩) ?_ ?_
          rotate_left
          · intro w'
            go_simp
            with_reducible rfl
          rotate_left
          · simp only [Act.put, List.setIfInBounds_toArray, List.set_cons_zero, List.set_cons_succ, i64_w, i32_w]
            rfl
          refine pure_ (i := 20) (N := some 91) (v := ?_) (a' := ?_) #[true, true, true, true, true, true, true, true, true, true, true, true, true, true, true, true, true, true, true, true, true, false, false, false, false, false, false, false, false, false, false, false, false, false, false, false, false, false, false, false, false] rfl rfl (by kernel_rfl) (fun _ _ _ h => h) (Or.inl ⟨by rfl, ?_⟩) ?_ ?_
          rotate_left
          · intro w'
            go_simp
            with_reducible rfl
          rotate_left
          · simp only [Act.put, List.setIfInBounds_toArray, List.set_cons_zero, List.set_cons_succ, i64_w, i32_w]
            rfl
          refine pure_ (i := 21) (N := some 92) (v := ?_) (a' := ?_) #[true, true, true, true, true, true, true, true, true, true, true, true, true, true, true, true, true, true, true, true, true, true, false, false, false, false, false, false, false, false, false, false, false, false, false, false, false, false, false, false, false] rfl rfl (by kernel_rfl) (fun _ _ _ h => h) (Or.inl ⟨by rfl, ?_⟩) ?_ ?_
          rotate_left
          · intro w'
            go_simp
            with_reducible rfl
          rotate_left
          · simp only [Act.put, List.setIfInBounds_toArray, List.set_cons_zero, List.set_cons_succ, i64_w, i32_w]
            rfl
          refine pure_ (i := 22) (N := some 93) (v := ?_) (a' := ?_) #[true, true, true, true, true, true, true, true, true, true, true, true, true, true, true, true, true, true, true, true, true, true, true, false, false, false, false, false, false, false, false, false, false, false, false, false, false, false, false, false, false] rfl rfl (by kernel_rfl) (fun _ _ _ h => h) (Or.inl ⟨by rfl, ?_⟩) ?_ ?_
          rotate_left
          · intro w'
            go_simp
            with_reducible rfl
          rotate_left
          · simp only [Act.put, List.setIfInBounds_toArray, List.set_cons_zero, List.set_cons_succ, i64_w, i32_w]
            rfl
          refine pure_ (i := 23) (N := some 94) (v := ?_) (a' := ?_) #[true, true, true, true, true, true, true, true, true, true, true, true, true, true, true, true, true, true, true, true, true, true, true, true, false, false, false, false, false, false, false, false, false, false, false, false, false, false, false, false, false] rfl rfl (by kernel_rfl) (fun _ _ _ h => h) (Or.inl ⟨by rfl, ?_⟩) ?_ ?_
          rotate_left
          · intro w'
            go_simp
            with_reducible rfl
          rotate_left
          · simp only [Act.put, List.setIfInBounds_toArray, List.set_cons_zero, List.set_cons_succ, i64_w, i32_w]
            rfl
          refine one_ (i := 24) (N := some 95) #[true, true, true, true, true, true, true, true, true, true, true, true, true, true, true, true, true, true, true, true, true, true, true, true, true, false, false, false, false, false, false, false, false, false, false, false, false, false, false, false, false] rfl rfl (by kernel_rfl) (by decide) (fun K hK => ?_)
          refine goes_ Tryd.func12 (by kernel_rfl) rfl #[.slice A8 D.length c8, .slice B8 D.length d8] (by rfl) rfl rfl (by simp only [List.map_toArray, List.map_cons, List.map_nil]; first | done | rfl) ?_
          with_reducible refine (casketref01_Same.calls ks A8 c8 D B8 d8 D true _ (Kd.C_drew HR1.out) HC1.out (Kd.C_drew HR2.out) HC2.out HKS.out).mono ?_
          rintro e w3 ⟨rfl, ⟨n3, rfl⟩⟩
          refine ⟨_, rfl, ?_⟩
          refine hK.out _ _ (trivial) (fun hHeld => ?_)
          clear hK K
          refine norm_ (a' := ?_) ?_ ?_
          rotate_left
          · show Act.put _ (some 95) _ = _
            simp only [Act.put, List.setIfInBounds_toArray, List.set_cons_zero, List.set_cons_succ, i64_w, i32_w]
            rfl
          refine pure_ (i := 25) (N := some 96) (v := ?_) (a' := ?_) #[true, true, true, true, true, true, true, true, true, true, true, true, true, true, true, true, true, true, true, true, true, true, true, true, true, true, false, false, false, false, false, false, false, false, false, false, false, false, false, false, false] rfl rfl (by kernel_rfl) (fun _ _ _ h => h) (Or.inl ⟨by rfl, ?_⟩) ?_ ?_
          rotate_left
          · intro w'
            go_simp
            with_reducible rfl
          rotate_left
          · simp only [Act.put, List.setIfInBounds_toArray, List.set_cons_zero, List.set_cons_succ, i64_w, i32_w]
            rfl
          refine pure_ (i := 26) (N := some 97) (v := ?_) (a' := ?_) #[true, true, true, true, true, true, true, true, true, true, true, true, true, true, true, true, true, true, true, true, true, true, true, true, true, true, true, false, false, false, false, false, false, false, false, false, false, false, false, false, false] rfl rfl (by kernel_rfl) (fun _ _ _ h => h) (Or.inl ⟨by rfl, ?_⟩) ?_ ?_
          rotate_left
          · intro w'
            go_simp
            with_reducible rfl
          rotate_left
          · simp only [Act.put, List.setIfInBounds_toArray, List.set_cons_zero, List.set_cons_succ, i64_w, i32_w]
            rfl
          refine pure_ (i := 27) (N := some 98) (v := ?_) (a' := ?_) #[true, true, true, true, true, true, true, true, true, true, true, true, true, true, true, true, true, true, true, true, true, true, true, true, true, true, true, true, false, false, false, false, false, false, false, false, false, false, false, false, false] rfl rfl (by kernel_rfl) (fun _ _ _ h => h) (Or.inl ⟨by rfl, ?_⟩) ?_ ?_
          rotate_left
          · intro w'
            go_simp
            with_reducible rfl
          rotate_left
          · simp only [Act.put, List.setIfInBounds_toArray, List.set_cons_zero, List.set_cons_succ, i64_w, i32_w]
            rfl
          refine pure_ (i := 28) (N := some 99) (v := ?_) (a' := ?_) #[true, true, true, true, true, true, true, true, true, true, true, true, true, true, true, true, true, true, true, true, true, true, true, true, true, true, true, true, true, false, false, false, false, false, false, false, false, false, false, false, false] rfl rfl (by kernel_rfl) (fun _ _ _ h => h) (Or.inl ⟨by rfl, ?_⟩) ?_ ?_
          rotate_left
          · intro w'
            go_simp
            with_reducible rfl
          rotate_left
          · simp only [Act.put, List.setIfInBounds_toArray, List.set_cons_zero, List.set_cons_succ, i64_w, i32_w]
            rfl
          refine pure_ (i := 29) (N := some 100) (v := ?_) (a' := ?_) #[true, true, true, true, true, true, true, true, true, true, true, true, true, true, true, true, true, true, true, true, true, true, true, true, true, true, true, true, true, true, false, false, false, false, false, false, false, false, false, false, false] rfl rfl (by kernel_rfl) (fun _ _ _ h => h) (Or.inl ⟨by rfl, ?_⟩) ?_ ?_
          rotate_left
          · intro w'
            go_simp
            with_reducible rfl
          rotate_left
          · simp only [Act.put, List.setIfInBounds_toArray, List.set_cons_zero, List.set_cons_succ, i64_w, i32_w]
            rfl
          refine pure_ (i := 30) (N := some 101) (v := ?_) (a' := ?_) #[true, true, true, true, true, true, true, true, true, true, true, true, true, true, true, true, true, true, true, true, true, true, true, true, true, true, true, true, true, true, true, false, false, false, false, false, false, false, false, false, false] rfl rfl (by kernel_rfl) (fun _ _ _ h => h) (Or.inl ⟨by rfl, ?_⟩) ?_ ?_
          rotate_left
          · intro w'
            go_simp
            with_reducible rfl
          rotate_left
          · simp only [Act.put, List.setIfInBounds_toArray, List.set_cons_zero, List.set_cons_succ, i64_w, i32_w]
            rfl
          refine pure_ (i := 31) (N := some 102) (v := ?_) (a' := ?_) #[true, true, true, true, true, true, true, true, true, true, true, true, true, true, true, true, true, true, true, true, true, true, true, true, true, true, true, true, true, true, true, true, false, false, false, false, false, false, false, false, false] rfl rfl (by kernel_rfl) (fun _ _ _ h => h) (Or.inl ⟨by rfl, ?_⟩) ?_ ?_
          rotate_left
          · intro w'
            go_simp
            with_reducible rfl
          rotate_left
          · simp only [Act.put, List.setIfInBounds_toArray, List.set_cons_zero, List.set_cons_succ, i64_w, i32_w]
            rfl
          refine pure_ (i := 32) (N := some 103) (v := ?_) (a' := ?_) #[true, true, true, true, true, true, true, true, true, true, true, true, true, true, true, true, true, true, true, true, true, true, true, true, true, true, true, true, true, true, true, true, true, false, false, false, false, false, false, false, false] rfl rfl (by kernel_rfl) (fun _ _ _ h => h) (Or.inl ⟨by rfl, ?_⟩) ?_ ?_
          rotate_left
          · intro w'
            go_simp
            with_reducible rfl
          rotate_left
          · simp only [Act.put, List.setIfInBounds_toArray, List.set_cons_zero, List.set_cons_succ, i64_w, i32_w]
            rfl
          refine pure_ (i := 33) (N := some 104) (v := ?_) (a' := ?_) #[true, true, true, true, true, true, true, true, true, true, true, true, true, true, true, true, true, true, true, true, true, true, true, true, true, true, true, true, true, true, true, true, true, true, false, false, false, false, false, false, false] rfl rfl (by kernel_rfl) (fun _ _ _ h => h) (Or.inl ⟨by rfl, ?_⟩) ?_ ?_
          rotate_left
          · intro w'
            go_simp
            with_reducible rfl
          rotate_left
          · simp only [Act.put, List.setIfInBounds_toArray, List.set_cons_zero, List.set_cons_succ, i64_w, i32_w]
            rfl
          refine pure_ (i := 34) (N := some 105) (v := ?_) (a' := ?_) #[true, true, true, true, true, true, true, true, true, true, true, true, true, true, true, true, true, true, true, true, true, true, true, true, true, true, true, true, true, true, true, true, true, true, true, false, false, false, false, false, false] rfl rfl (by kernel_rfl) (fun _ _ _ h => h) (Or.inl ⟨by rfl, ?_⟩) ?_ ?_
          rotate_left
          · intro w'
            go_simp
            with_reducible rfl
          rotate_left
          · simp only [Act.put, List.setIfInBounds_toArray, List.set_cons_zero, List.set_cons_succ, i64_w, i32_w]
            rfl
          refine pure_ (i := 35) (N := some 106) (v := ?_) (a' := ?_) #[true, true, true, true, true, true, true, true, true, true, true, true, true, true, true, true, true, true, true, true, true, true, true, true, true, true, true, true, true, true, true, true, true, true, true, true, false, false, false, false, false] rfl rfl (by kernel_rfl) (fun _ _ _ h => h) (Or.inl ⟨by rfl, ?_⟩) ?_ ?_
          rotate_left
          · intro w'
            go_simp
            with_reducible rfl
          rotate_left
          · simp only [Act.put, List.setIfInBounds_toArray, List.set_cons_zero, List.set_cons_succ, i64_w, i32_w]
            rfl
          refine pure_ (i := 36) (N := some 107) (v := ?_) (a' := ?_) #[true, true, true, true, true, true, true, true, true, true, true, true, true, true, true, true, true, true, true, true, true, true, true, true, true, true, true, true, true, true, true, true, true, true, true, true, true, false, false, false, false] rfl rfl (by kernel_rfl) (fun _ _ _ h => h) (Or.inl ⟨by rfl, ?_⟩) ?_ ?_
          rotate_left
          · intro w'
            go_simp
            with_reducible rfl
          rotate_left
          · simp only [Act.put, List.setIfInBounds_toArray, List.set_cons_zero, List.set_cons_succ, i64_w, i32_w]
            rfl
          refine pure_ (i := 37) (N := some 108) (v := ?_) (a' := ?_) #[true, true, true, true, true, true, true, true, true, true, true, true, true, true, true, true, true, true, true, true, true, true, true, true, true, true, true, true, true, true, true, true, true, true, true, true, true, true, false, false, false] rfl rfl (by kernel_rfl) (fun _ _ _ h => h) (Or.inl ⟨by rfl, ?_⟩) ?_ ?_
          rotate_left
          · intro w'
            go_simp
            with_reducible rfl
          rotate_left
          · simp only [Act.put, List.setIfInBounds_toArray, List.set_cons_zero, List.set_cons_succ, i64_w, i32_w]
            rfl
          refine pure_ (i := 38) (N := some 109) (v := ?_) (a' := ?_) #[true, true, true, true, true, true, true, true, true, true, true, true, true, true, true, true, true, true, true, true, true, true, true, true, true, true, true, true, true, true, true, true, true, true, true, true, true, true, true, false, false] rfl rfl (by kernel_rfl) (fun _ _ _ h => h) (Or.inl ⟨by rfl, ?_⟩) ?_ ?_
          rotate_left
          · intro w'
            go_simp
            with_reducible rfl
          rotate_left
          · simp only [Act.put, List.setIfInBounds_toArray, List.set_cons_zero, List.set_cons_succ, i64_w, i32_w]
            rfl
          refine pure_ (i := 39) (N := some 110) (v := ?_) (a' := ?_) #[true, true, true, true, true, true, true, true, true, true, true, true, true, true, true, true, true, true, true, true, true, true, true, true, true, true, true, true, true, true, true, true, true, true, true, true, true, true, true, true, false] rfl rfl (by kernel_rfl) (fun _ _ _ h => h) (Or.inl ⟨by rfl, ?_⟩) ?_ ?_
          rotate_left
          · intro w'
            go_simp
            with_reducible rfl
          rotate_left
          · simp only [Act.put, List.setIfInBounds_toArray, List.set_cons_zero, List.set_cons_succ, i64_w, i32_w]
            rfl
          refine pure_ (i := 40) (N := some 6) (v := ?_) (a' := ?_) #[true, true, true, true, true, true, true, true, true, true, true, true, true, true, true, true, true, true, true, true, true, true, true, true, true, true, true, true, true, true, true, true, true, true, true, true, true, true, true, true, true] rfl rfl (by kernel_rfl) (fun _ _ _ h => h) (Or.inl ⟨by rfl, ?_⟩) ?_ ?_
          rotate_left
          · intro w'
            go_simp
            with_reducible rfl
          rotate_left
          · simp only [Act.put, List.setIfInBounds_toArray, List.set_cons_zero, List.set_cons_succ, i64_w, i32_w]
            rfl
          refine done_ (by kernel_rfl) ?_

          go_wp2
          go_ret
          exact ⟨rfl, by first | exact pw_below_drewN (below_drew1 HB5.out) n3 | exact pw_below_drewN (below_drew1 (pw_below_drewN (below_drew1 HB5.out) n3)) _⟩
end Go.Proofs.YtfpnoceppjjafaaDoor.P
