/- The reference's Encode: its contract. Printed by gen_renc.py. -/
import Derived.Test.YtfpnoceppjjafaaDoorRtl
import Derived.WalkMore
import Derived.Test.YtfpnoceppjjafaaDoorPx6
import Derived.Test.YtfpnoceppjjafaaDoorPx7
import Derived.Test.YtfpnoceppjjafaaDoorPx8
namespace Go.Proofs.YtfpnoceppjjafaaDoor.P
open Go.RowKit Go.Proofs.YtfpnoceppjjafaaDoor.Kit Go.Proofs.YtfpnoceppjjafaaDoor.Var Go.Proofs.YtfpnoceppjjafaaDoorW.PrintWords Go.Proofs.YtfpnoceppjjafaaDoorW.PrintLast Go.Proofs.YtfpnoceppjjafaaDoorW.PrintMore
attribute [local go_sem] max2_int min2_int max_two min_two
set_option linter.unusedVariables false
set_option linter.unusedSimpArgs false
def casketref09_Encode.f (l : List Int) : Option (List Int × Int) := if (∀ x ∈ l, 0 ≤ x ∧ x ≤ 18446744073709551615) ∧ l.length < 140737488355328 then some (gEnc l) else none
theorem gB_room2 {l : List Int} (hu : ∀ x ∈ l, U x) (hl : l.length ≤ 65536) {i : Nat} (hi : i ≤ l.length) : (gB l i).length ≤ 5046272 := by
  have := gB_len hu i hi
  omega
set_option maxHeartbeats 8000000 in
set_option maxRecDepth 100000 in
theorem casketref09_Encode.calls (A0 : Option Addr) (c0 : Nat) (l0 : List Int) (r1 : List Int) (r2 : Int) (w : World) (hr0 : Kd.C (Kd.int .u64) w A0 l0.length l0) (hc0 : l0.length ≤ c0) (h : casketref09_Encode.f l0 = some (r1, r2)) :
    Calls Tryd.prog 11 #[.slice A0 l0.length c0] w fun e w' => ∃ v0_ : Value, e = .returned (.tuple #[v0_, .int .i64 r2]) ∧ Kd.R (Kd.int .u8) 5 w' w.heap.size (fun _ => True) v0_ r1 ∧ Below w.heap.size w w' := by
  unfold casketref09_Encode.f at h
  split at h
  case isFalse => cases h
  case isTrue hc =>
    injection h with h
    unfold gEnc at h
    obtain ⟨hu, hl⟩ := hc
    by_cases h65 : 65536 < l0.length
    · rw [if_pos h65] at h
      injection h with h1 h2
      subst h1 h2
      have c1 : decide (65536 < (l0.length : Int)) = true := decide_eq_true (by omega)
      have c2 : decide (65536 < l0.length) = true := decide_eq_true h65
      clear hr0 hc0 hu hl h65
      go_enter Tryd.func11, Tryd.ntmps11
      go_wp2
      go_ret2
      exact ⟨_, rfl, Kd.R_nil _ _ _ _ _, Below.refl _ _⟩
    · rw [if_neg h65] at h
      injection h with h1 h2
      subst h2
      have c1 : decide (65536 < (l0.length : Int)) = false := decide_eq_false (by omega)
      have c2 : decide (65536 < l0.length) = false := decide_eq_false h65
      have H := Aside0.mk h1
      have HR := Aside0.mk hr0
      have HU := Aside0.mk (show ∀ x ∈ l0, U x from hu)
      have HN := Aside0.mk (show l0.length ≤ 65536 ∧ l0.length ≤ c0 from ⟨by omega, hc0⟩)
      clear hr0 hc0 hu hl h65 h1
      go_enter Tryd.func11, Tryd.ntmps11
      go_wp2
      go_loopg [4, 5, 6, 7] l0.length (fun kq v4 v5 v6 v7 W' => ∃ (i : Nat) (a z : Int), v5 = .int .i64 a ∧ v6 = .int .i64 z ∧ v7 = .int .i64 (i : Int) ∧ kq = l0.length - i ∧ i ≤ l0.length ∧ Aside0 (refP (a, z) (gW l0 i)) ∧ Aside0 (Below w.heap.size w W') ∧ Aside0 (Kd.R (Kd.int .i64) 3 W' w.heap.size (fun _ => True) v4 (gB l0 i)))
      case atStart => exact ⟨0, -1, -1, rfl, rfl, rfl, rfl, Nat.zero_le _, ⟨.inl ⟨rfl, rfl⟩⟩, ⟨Below.refl _ _⟩, ⟨Kd.R_nil _ _ _ _ _⟩⟩
      case round =>
        clear c1 c2
        obtain ⟨i, a, z, rfl, rfl, rfl, rfl, hi, HP, HB, HO⟩ := hrel
        by_cases hlt : i < l0.length
        · have c3 : decide ((i : Int) < (l0.length : Int)) = true := decide_eq_true (by omega)
          have c4 : decide (i < l0.length) = true := decide_eq_true hlt
          obtain ⟨ad2, e2, hx⟩ := Kd.at_int HR.out (i : Int) (by omega) (by omega)
          subst e2
          rw [Int.toNat_natCast] at hx
          replace hx := (HB.out.cell (World.block_lt_of_cell? w _ hx)).trans hx
          have HW := Aside0.mk (show wrap64 ((i : Int) + 1) = ((i + 1 : Nat) : Int) from by have := HN.out; rw [wrap64_id (by omega) (by omega)]; omega)
          have HRM := Aside0.mk (gB_room2 HU.out HN.out.1 hi)
          have HV := Aside0.mk (HU.out _ (rd_mem l0 (i : Int) (by omega) (by omega)))
          have HGS := Aside0.mk (gB_succ l0 i)
          by_cases h0 : i = 0
          · have c5 : ((i : Int) == 0) = true := by rw [h0]; rfl
            have hx' : wr.cell? ad2 = some (.int .u64 (rd l0 (i : Int))) := by
              subst h0
              exact hx
            obtain ⟨kp, hkp⟩ := (rPut_fit [] (rd l0 (i : Int)) 64 HV.out (by decide) (bl64 HV.out) (by decide)).get
            have HPF := Aside0.mk hkp
            have HIT := Aside0.mk (show gB l0 i ++ gItem l0 i = [] ++ bitsOf 64 (rd l0 (i : Int)) ∧ gW l0 (i + 1) = gW l0 i from by
              subst h0
              exact ⟨rfl, rfl⟩)
            clear hkp h0 hx
            go_wp2_with (fail)
            refine (casketref09_put.owns kp (fun _ => False) none 0 [] _ _ _ _ (Kd.V_nil _ _ _ _ _) HPF.out).mono ?_
            rintro e w4 ⟨v4, rfl, ho, hb⟩
            have HO4 := Aside0.mk (Kd.R_lower ho (below_size HB.out))
            have HB4 := Aside0.mk (below_step HB.out hb)
            clear ho hb HO HB
            go_wp2
            go_roundg (l0.length - (i + 1))
            case measure => exact (by have := HN.out; omega)
            case rel =>
              rw [HW.out]
              exact ⟨i + 1, a, z, rfl, rfl, rfl, rfl, hlt, ⟨by rw [HIT.out.2]; exact HP.out⟩, HB4, ⟨by rw [HGS.out, HIT.out.1]; exact HO4.out⟩⟩
          · obtain ⟨j, hj⟩ : ∃ j, i = j + 1 := ⟨i - 1, by omega⟩
            have c5 : ((i : Int) == 0) = false := by rw [beq_eq_false_iff_ne]; omega
            have c7 : decide ((j : Int) < (l0.length : Int)) = true := decide_eq_true (by omega)
            have c8 : decide (j < l0.length) = true := decide_eq_true (by omega)
            have c9 : j < l0.length := by omega
            obtain ⟨ad3, e3, hy⟩ := Kd.at_int HR.out (j : Int) (by omega) (by omega)
            injection e3 with e3
            subst e3
            rw [Int.toNat_natCast] at hy
            replace hy := (HB.out.cell (World.block_lt_of_cell? w _ hy)).trans hy
            have hw1 : wrap64 ((i : Int) - 1) = (j : Int) := by have := HN.out; rw [wrap64_id (by omega) (by omega)]; omega
            have HXU := Aside0.mk (dx_U HU.out (show 0 < i by omega) hlt)
            have HOK := Aside0.mk (gW_ok HU.out i hi)
            have HIT := Aside0.mk (show gItem l0 i = stepB (gW l0 i) (dx l0 i) from if_neg h0)
            have HWT := Aside0.mk (show gW l0 (i + 1) = stepW (gW l0 i) (dx l0 i) from if_neg h0)
            have hdx0 : dx l0 i = xw (rd l0 (i : Int)) (rd l0 (j : Int)) := by
              unfold dx
              rw [show (i : Int) - 1 = (j : Int) by omega]
            have hdx : Go.bits .xor .u64 (rd l0 (i : Int)) (rd l0 (j : Int)) = dx l0 i := hdx0.symm
            generalize dx l0 i = x at *
            generalize hp : gW l0 i = p at *
            clear hdx0 h0 hj HV hp
            go_upto_region 12 with (fail)
            refine start_ (n := 11) (S := fun w' => w'.cell? (ad2.add i) = some (.int .u64 (rd l0 (i : Int))) ∧ w'.cell? (ad2.add j) = some (.int .u64 (rd l0 (j : Int)))) (ds := []) #[false, false, false, false, false, false, false, false, false, false, false] (by kernel_rfl) rfl rfl ⟨hx, hy⟩ (fun hHeld => ?_)
            refine pure_ (i := 0) (N := some 25) (v := ?_) (a' := ?_) #[true, false, false, false, false, false, false, false, false, false, false] rfl rfl (by kernel_rfl) (fun _ _ _ h => h) (Or.inl ⟨by rfl, ?_⟩) ?_ ?_
            rotate_left
            · intro w'
              go_simp
              with_reducible rfl
            rotate_left
            · simp only [Act.put, List.setIfInBounds_toArray, List.set_cons_zero, List.set_cons_succ, i64_w, i32_w]
              rfl
            refine pure_ (i := 1) (N := some 26) (v := ?_) (a' := ?_) #[true, true, false, false, false, false, false, false, false, false, false] rfl rfl (by kernel_rfl) (fun _ _ _ h => h) (Or.inl ⟨by rfl, ?_⟩) ?_ ?_
            rotate_left
            · intro w'
              go_simp
              with_reducible rfl
            rotate_left
            · simp only [Act.put, List.setIfInBounds_toArray, List.set_cons_zero, List.set_cons_succ, i64_w, i32_w]
              rfl
            refine pure_ (i := 2) (N := some 27) (v := ?_) (a' := ?_) #[true, true, true, false, false, false, false, false, false, false, false] rfl rfl (by kernel_rfl) (fun _ _ _ h => h) (Or.inl ⟨by rfl, ?_⟩) ?_ ?_
            rotate_left
            · intro w'
              go_simp
              with_reducible rfl
            rotate_left
            · simp only [Act.put, List.setIfInBounds_toArray, List.set_cons_zero, List.set_cons_succ, i64_w, i32_w]
              rfl
            refine pure_ (i := 4) (N := some 29) (v := ?_) (a' := ?_) #[true, true, true, false, true, false, false, false, false, false, false] rfl rfl (by kernel_rfl) (fun _ _ _ h => h) (Or.inl ⟨by rfl, ?_⟩) ?_ ?_
            rotate_left
            · intro w'
              go_simp
              with_reducible rfl
            rotate_left
            · simp only [Act.put, List.setIfInBounds_toArray, List.set_cons_zero, List.set_cons_succ, i64_w, i32_w]
              rfl
            refine pure_ (i := 5) (N := some 30) (v := ?_) (a' := ?_) #[true, true, true, false, true, true, false, false, false, false, false] rfl rfl (by kernel_rfl) (fun _ _ _ h => h) (Or.inl ⟨by rfl, ?_⟩) ?_ ?_
            rotate_left
            · intro w'
              go_simp
              with_reducible rfl
            rotate_left
            · simp only [Act.put, List.setIfInBounds_toArray, List.set_cons_zero, List.set_cons_succ, i64_w, i32_w]
              rfl
            refine pure_ (i := 6) (N := some 31) (v := ?_) (a' := ?_) #[true, true, true, false, true, true, true, false, false, false, false] rfl rfl (by kernel_rfl) (fun _ _ _ h => h) (Or.inl ⟨by rfl, ?_⟩) ?_ ?_
            rotate_left
            · intro w'
              go_simp
              with_reducible rfl
            rotate_left
            · simp only [Act.put, List.setIfInBounds_toArray, List.set_cons_zero, List.set_cons_succ, i64_w, i32_w]
              rfl
            refine pure_ (i := 7) (N := some 32) (v := ?_) (a' := ?_) #[true, true, true, false, true, true, true, true, false, false, false] rfl rfl (by kernel_rfl) (fun _ _ _ h => h) (Or.inl ⟨by rfl, ?_⟩) ?_ ?_
            rotate_left
            · intro w'
              go_simp
              with_reducible rfl
            rotate_left
            · simp only [Act.put, List.setIfInBounds_toArray, List.set_cons_zero, List.set_cons_succ, i64_w, i32_w]
              rfl
            refine take_ (i := 3) (N := some 28) (v := ?_) (a' := ?_) #[true, true, true, true, true, true, true, true, false, false, false] rfl rfl (by kernel_rfl) (fun _ _ _ h => h) (Or.inl ⟨by rfl, ?_⟩) hHeld ?_ ?_
            rotate_left
            · rintro w' ⟨s0, s1⟩
              go_simp
              with_reducible rfl
            rotate_left
            · simp only [Act.put, List.setIfInBounds_toArray, List.set_cons_zero, List.set_cons_succ, i64_w, i32_w]
              rfl
            refine take_ (i := 8) (N := some 33) (v := ?_) (a' := ?_) #[true, true, true, true, true, true, true, true, true, false, false] rfl rfl (by kernel_rfl) (fun _ _ _ h => h) (Or.inl ⟨by rfl, ?_⟩) hHeld ?_ ?_
            rotate_left
            · rintro w' ⟨s0, s1⟩
              go_simp
              with_reducible rfl
            rotate_left
            · simp only [Act.put, List.setIfInBounds_toArray, List.set_cons_zero, List.set_cons_succ, i64_w, i32_w]
              rfl
            refine pure_ (i := 9) (N := some 34) (v := ?_) (a' := ?_) #[true, true, true, true, true, true, true, true, true, true, false] rfl rfl (by kernel_rfl) (fun _ _ _ h => h) (Or.inl ⟨by rfl, ?_⟩) ?_ ?_
            rotate_left
            · intro w'
              go_simp
              with_reducible rfl
            rotate_left
            · simp only [Act.put, List.setIfInBounds_toArray, List.set_cons_zero, List.set_cons_succ, i64_w, i32_w]
              rfl
            refine pure_ (i := 10) (N := some 9) (v := ?_) (a' := ?_) #[true, true, true, true, true, true, true, true, true, true, true] rfl rfl (by kernel_rfl) (fun _ _ _ h => h) (Or.inl ⟨by rfl, ?_⟩) ?_ ?_
            rotate_left
            · intro w'
              go_simp
              with_reducible rfl
            rotate_left
            · simp only [Act.put, List.setIfInBounds_toArray, List.set_cons_zero, List.set_cons_succ, i64_w, i32_w]
              rfl
            refine done_ (by kernel_rfl) ?_

            have HB1 := Aside0.mk (below_drew1 HB.out)
            have HO1 := Aside0.mk (Kd.R_drew HO.out)
            clear hHeld hx hy HB HO
            generalize wr.drew = wz at *
            have HB := HB1
            have HO := HO1
            clear HB1 HO1
            by_cases hx0 : x = 0
            · have c6 : (x == 0) = true := by rw [hx0]; rfl
              have HS := Aside0.mk (show stepB p x = [0] ∧ stepW p x = p from ⟨(if_pos hx0).trans (by rfl), if_pos hx0⟩)
              clear hx0
              go_wp2_with (first
                | ((with_reducible refine gate_builtin (b := .append) (xs := #[.tmp 37, .tmp 38]) rfl ?_); at_builtin; refine Kd.R_append (Kd.int .i64) (w0 := w) w.heap.size rfl (.tmp 37) (.tmp 38) 49 3 (.int .i64 0) 8 rfl Tryd.underlying49 info3 rfl (by decide) (by omega) u4 (gB l0 i) 0 [.int .i64 0] (fun _ => True) (fun _ => False) rfl rfl rfl (fun _ hk => hk.elim) (fun _ _ => trivial) HO.out HB.out (below_size HB.out) (by have := HRM.out; omega) ?_; intro v1 w9 ho hb hg hat; have HB9 := Aside0.mk hb; have HO9 := Aside0.mk ho; clear ho hb hg hat))
              go_roundg (l0.length - (i + 1))
              case measure => exact (by have := HN.out; omega)
              case rel =>
                rw [HW.out]
                exact ⟨i + 1, a, z, rfl, rfl, rfl, rfl, hlt, ⟨by rw [HWT.out, HS.out.2]; exact HP.out⟩, HB9, ⟨by rw [HGS.out, HIT.out, HS.out.1]; exact HO9.out⟩⟩
            · have c6 : (x == 0) = false := by rw [beq_eq_false_iff_ne]; exact hx0
              have HX0 := Aside0.mk hx0
              obtain ⟨kw, hkw⟩ := (rWid_ev HXU.out).get
              obtain ⟨kt, hkt⟩ := (rTrail_ev HXU.out hx0).get
              obtain ⟨kl, hkl⟩ := (rLead_ev HXU.out).get
              have HKW := Aside0.mk hkw
              have HKT := Aside0.mk hkt
              have HKL := Aside0.mk hkl
              have HLZ := Aside0.mk (lz_le HXU.out)
              have HF := Aside0.mk (fits_ref (x := x) HP.out)
              have hw2 : wrap64 (64 - (64 - lz x)) = lz x := by have := HLZ.out; rw [wrap64_id (by omega) (by omega)]; omega
              clear hx0 hkw hkt hkl
              go_upto_region 15 with (fail)
              go_cut [54] (fun v54 wc => v54 = .bool (fitsW p.1 p.2 x) ∧ Aside0 (Below w.heap.size w wc) ∧ Aside0 (Kd.R (Kd.int .i64) 3 wc w.heap.size (fun _ => True) u4 (gB l0 i)))
              case first =>
                by_cases f1 : 0 ≤ a
                · have f1b : decide (0 ≤ a) = true := decide_eq_true f1
                  by_cases f2 : a ≤ lz x
                  · have f2b : decide (a ≤ lz x) = true := decide_eq_true f2
                    clear f1 f2
                    go_wp2_with (first | (go_at_call 23; refine (casketref01_Width.calls kw _ _ _ HKW.out).mono ?_; rintro e w' ⟨rfl, ⟨nd, rfl⟩⟩) | (go_at_call 24; refine (casketref09_trail.calls kt _ _ _ HKT.out).mono ?_; rintro e w' ⟨rfl, ⟨nd2, rfl⟩⟩))
                    go_meet
                    case rel => exact ⟨by rw [HF.out, f1b, f2b]; simp, ⟨pw_below_drewN HB.out _⟩, ⟨Kd.R_drewN HO.out _⟩⟩
                  · have f2b : decide (a ≤ lz x) = false := decide_eq_false f2
                    clear f1 f2
                    go_wp2_with (first | (go_at_call 23; refine (casketref01_Width.calls kw _ _ _ HKW.out).mono ?_; rintro e w' ⟨rfl, ⟨nd, rfl⟩⟩))
                    go_meet
                    case rel => exact ⟨by rw [HF.out, f1b, f2b]; simp, ⟨pw_below_drewN HB.out _⟩, ⟨Kd.R_drewN HO.out _⟩⟩
                · have f1b : decide (0 ≤ a) = false := decide_eq_false f1
                  clear f1
                  go_wp2
                  go_meet
                  case rel => exact ⟨by rw [HF.out, f1b]; simp, HB, HO⟩
              case rest =>
                clear HB HO
                obtain ⟨rfl, HB, HO⟩ := hcut
                have hok := HOK.out
                by_cases hf : fitsW p.1 p.2 x = true
                · have hff := HF.out
                  rw [hf] at hff
                  have hfz : 0 ≤ a ∧ a ≤ lz x ∧ z ≤ tz x := by
                    have := hff.symm
                    simp only [Bool.and_eq_true, decide_eq_true_eq] at this
                    exact ⟨this.1.1, this.1.2, this.2⟩
                  have hpe : p = (a, z) := by
                    rcases HP.out with ⟨_, e⟩ | ⟨_, e⟩
                    · injection e with e1 e2
                      omega
                    · exact e.symm
                  have hw : 0 ≤ a ∧ a ≤ 31 ∧ 0 ≤ z ∧ a + z ≤ 63 := by
                    rcases hok with e | e
                    · rw [hpe] at e
                      injection e with e1 e2
                      omega
                    · rw [hpe] at e
                      exact e
                  have HFU := Aside0.mk (shr_fit HXU.out hw.1 hw.2.2.1 (by omega) hfz.2.1)
                  have HS := Aside0.mk (show stepB p x = [1, 0] ++ bitsOf (64 - p.1 - p.2).toNat (x / 2 ^ p.2.toNat) ∧ stepW p x = p from ⟨(if_neg HX0.out).trans (if_pos hf), (if_neg HX0.out).trans (if_pos hf)⟩)
                  rw [hpe] at HS
                  obtain ⟨zn, rfl⟩ := Int.eq_ofNat_of_zero_le hw.2.2.1
                  rw [Int.toNat_natCast] at HFU
                  obtain ⟨RW, hRW⟩ : ∃ RW : Nat, (64 - a - (zn : Int)).toNat = RW := ⟨_, rfl⟩
                  replace HS := Aside0.mk (show stepB (a, (zn : Int)) x = [1, 0] ++ bitsOf RW (x / 2 ^ zn) ∧ stepW (a, (zn : Int)) x = (a, (zn : Int)) from by rw [← hRW]; exact HS.out)
                  obtain ⟨kp, hkp⟩ := (rPut_fit [1, 0] (x / 2 ^ zn) RW HFU.out.1 (by omega) (by have := HFU.out.2; omega) (by decide)).get
                  have HPF := Aside0.mk hkp
                  have hz0 : (0 : Int) ≤ (zn : Int) := by omega
                  have hz1 : (zn : Int) ≤ 64 := by omega
                  have hz2 : zn ≤ 64 := by omega
                  have hwz : IntKind.u64.wrap (zn : Int) = (zn : Int) := k64_id _ (by omega) (by omega)
                  have hr1 : wrap64 (64 - a) = 64 - a := wrap64_id (by omega) (by omega)
                  have hr2 : wrap64 (64 - a - (zn : Int)) = (RW : Int) := by rw [wrap64_id (by omega) (by omega)]; omega
                  have HPE := Aside0.mk hpe
                  have HRW := Aside0.mk (show RW ≤ 64 from by omega)
                  rw [hf]
                  clear hff hfz hpe hw hkp hf hok hRW HFU
                  go_wp2_with (first | ((with_reducible refine gate_dst (N := 55) rfl ?_); refine Kd.R_lit (Kd.int .i64) _ 3 ?hg (N := 55) ?hd (xs := ([1, 0] : List Int)) (inner := [.int .i64 1, .int .i64 0]) (ok := fun _ => True) (okp := fun _ => True) ?hr ?hp (fun _ hk => hk) trivial (Below.refl _ _) (Nat.le_refl _) (by simp) ?_; (case hd => rfl); (case hg => rfl); (case hr => first | (go_simp; done) | (go_simp; rfl)); (case hp => exact (Reps.one (show Kd.M (Kd.int .i64) _ _ _ 1 [.int .i64 1] from rfl) (Reps.one (show Kd.M (Kd.int .i64) _ _ _ 0 [.int .i64 0] from rfl) (Reps.none _ _)))); intro v55 w55 ho hb hg_ hnew_; clear hg_ hnew_; obtain ⟨Al, cl, el_⟩ := Kd.R_slice ho; subst el_; have HL := Aside0.mk ho; have HOL := Aside0.mk (Kd.R_below HO.out hb); have HBL := Aside0.mk (below_step HB.out hb); clear ho hb HO HB))
                  refine (casketref09_put.owns kp (fun _ => True) _ _ [1, 0] _ _ _ _ (Kd.R_V HL.out) HPF.out).mono ?_
                  rintro e w4 ⟨vo, rfl, ho, hb⟩
                  obtain ⟨Ao, co, eo⟩ := Kd.R_slice ho
                  subst eo
                  obtain ⟨LO, hLO⟩ : ∃ LO : List Int, [1, 0] ++ bitsOf RW (x / 2 ^ zn) = LO := ⟨_, rfl⟩
                  have HLL := Aside0.mk (show LO.length ≤ 80 from by rw [← hLO]; have := HRW.out; simp only [List.length_append, bitsOf_length, List.length_cons, List.length_nil]; omega)
                  rw [hLO] at ho ⊢
                  have HLO := Aside0.mk hLO
                  clear hLO
                  have HL4 := Aside0.mk (Kd.R_reads' ho)
                  have HO4 := Aside0.mk (Kd.R_below HOL.out hb)
                  have HB4 := Aside0.mk (below_step HBL.out hb)
                  clear ho hb HL HOL HBL
                  go_wp2_with (first
                    | ((with_reducible refine gate_builtin (b := .append) (xs := #[.tmp 90, .tmp 91]) rfl ?_); at_builtin; refine Kd.R_append_rows (Kd.int .i64) (w0 := w) w.heap.size rfl (.tmp 90) (.tmp 91) 49 3 (.int .i64 0) 8 rfl Tryd.underlying49 info3 rfl (by decide) (by omega) u4 (gB l0 i) LO _ _ _ (fun _ => True) (fun _ => False) rfl rfl ?aO ?aR (fun _ _ h => h) (fun _ h => h.elim) ?aF ?aB ?aS ?aL ?_; (case aR => exact HL4.out.2.2); (case aB => exact HB4.out); (case aF => exact (fun _ _ => trivial)); (case aO => exact HO4.out); (case aS => exact (below_size HB4.out)); (case aL => have := HRM.out; have := HLL.out; omega); intro v155 w12 ho hb hg hat; have HB9 := Aside0.mk hb; have HO9 := Aside0.mk ho; clear ho hb hg hat))
                  go_roundg (l0.length - (i + 1))
                  case measure => exact (by have := HN.out; omega)
                  case rel =>
                    rw [HW.out]
                    exact ⟨i + 1, a, (zn : Int), rfl, rfl, rfl, rfl, hlt, ⟨by rw [HWT.out, HPE.out, HS.out.2]; rw [HPE.out] at HP; exact HP.out⟩, HB9, ⟨by rw [HGS.out, HIT.out, HPE.out, HS.out.1, HLO.out]; exact HO9.out⟩⟩
                · have hf : fitsW p.1 p.2 x = false := by simpa using hf
                  have hnf : ¬ fitsW p.1 p.2 x = true := by rw [hf]; decide
                  have hw := ld_le HXU.out
                  have hzz := tz_le HXU.out
                  have hlz := lz_tz HXU.out HX0.out
                  have HFU := Aside0.mk (shr_fit HXU.out hw.1 hzz.1 (by omega) hw.2.2)
                  have HS := Aside0.mk (show stepB p x = [1, 1] ++ (bitsOf 5 (ld x) ++ (bitsOf 6 (63 - ld x - tz x) ++ bitsOf (64 - ld x - tz x).toNat (x / 2 ^ (tz x).toNat))) ∧ stepW p x = (ld x, tz x) from ⟨(if_neg HX0.out).trans (if_neg hnf), (if_neg HX0.out).trans (if_neg hnf)⟩)
                  generalize ld x = A at *
                  generalize tz x = Z at *
                  obtain ⟨an, rfl⟩ := Int.eq_ofNat_of_zero_le hw.1
                  obtain ⟨zn, rfl⟩ := Int.eq_ofNat_of_zero_le hzz.1
                  rw [Int.toNat_natCast] at HFU HS
                  obtain ⟨RW, hRW⟩ : ∃ RW : Nat, (64 - (an : Int) - (zn : Int)).toNat = RW := ⟨_, rfl⟩
                  obtain ⟨rm, hrm⟩ : ∃ rm : Nat, 63 - (an : Int) - (zn : Int) = (rm : Int) := ⟨_, (Int.toNat_of_nonneg (by omega)).symm⟩
                  rw [hRW, hrm] at HS
                  have hwr1 : IntKind.u64.wrap (an : Int) = (an : Int) := k64_id _ (by omega) (by omega)
                  have hwr2 : wrap64 (63 - (an : Int)) = 63 - (an : Int) := wrap64_id (by omega) (by omega)
                  have hwr3 : wrap64 (63 - (an : Int) - (zn : Int)) = (rm : Int) := by rw [wrap64_id (by omega) (by omega)]; omega
                  have hwr4 : IntKind.u64.wrap (rm : Int) = (rm : Int) := k64_id _ (by omega) (by omega)
                  have hz0 : (0 : Int) ≤ (zn : Int) := by omega
                  have hz1 : (zn : Int) ≤ 64 := by omega
                  have hz2 : zn ≤ 64 := by omega
                  have hwz : IntKind.u64.wrap (zn : Int) = (zn : Int) := k64_id _ (by omega) (by omega)
                  have hr1 : wrap64 (64 - (an : Int)) = 64 - (an : Int) := wrap64_id (by omega) (by omega)
                  have hr2 : wrap64 (64 - (an : Int) - (zn : Int)) = (RW : Int) := by rw [wrap64_id (by omega) (by omega)]; omega
                  have hsm : ∀ (v w : Nat), w ≤ 63 → v < 2 ^ w → U (v : Int) ∧ Lib.bitLen (v : Int).toNat ≤ w := fun v w h1 h2 => ⟨⟨by omega, by have := Nat.pow_le_pow_right (n := 2) (by decide) h1; have : v < 2 ^ 63 := Nat.lt_of_lt_of_le h2 this; omega⟩, by rw [Int.toNat_natCast]; exact bl_le (by omega) h2⟩
                  obtain ⟨kp1, hkp1⟩ := (rPut_fit [1, 1] (an : Int) 5 (hsm an 5 (by decide) (by omega)).1 (by decide) (hsm an 5 (by decide) (by omega)).2 (by decide)).get
                  obtain ⟨kp2, hkp2⟩ := (rPut_fit ([1, 1] ++ bitsOf 5 (an : Int)) (rm : Int) 6 (hsm rm 6 (by decide) (by omega)).1 (by decide) (hsm rm 6 (by decide) (by omega)).2 (by rw [List.length_append, bitsOf_length]; decide)).get
                  obtain ⟨kp3, hkp3⟩ := (rPut_fit (([1, 1] ++ bitsOf 5 (an : Int)) ++ bitsOf 6 (rm : Int)) (x / 2 ^ zn) RW HFU.out.1 (by omega) (by have := HFU.out.2; omega) (by rw [List.length_append, List.length_append, bitsOf_length, bitsOf_length]; decide)).get
                  have HPF1 := Aside0.mk hkp1
                  have HPF2 := Aside0.mk hkp2
                  have HPF3 := Aside0.mk hkp3
                  have HRW := Aside0.mk (show RW ≤ 64 from by omega)
                  have HAN := Aside0.mk (show (0 : Int) ≤ (an : Int) from by omega)
                  rw [hf]
                  clear hw hzz hlz hkp1 hkp2 hkp3 hf hnf hok hRW hrm HFU hsm hw2
                  go_wp2_with (fail)
                  refine (casketref09_lead.calls kl _ _ _ HKL.out).mono ?_
                  rintro e w3 ⟨rfl, hb⟩
                  have HO3 := Aside0.mk (Kd.R_below HO.out hb)
                  have HB3 := Aside0.mk (below_step HB.out hb)
                  clear hb HO HB
                  go_wp2_with (fail)
                  refine (casketref09_trail.calls kt _ _ _ HKT.out).mono ?_
                  rintro e w3' ⟨rfl, hb'⟩
                  have HO := Aside0.mk (Kd.R_below HO3.out hb'.below)
                  have HB := Aside0.mk (below_step HB3.out hb'.below)
                  clear hb' HO3 HB3
                  go_wp2_with (first | ((with_reducible refine gate_dst (N := 69) rfl ?_); refine Kd.R_lit (Kd.int .i64) _ 3 ?hg (N := 69) ?hd (xs := ([1, 1] : List Int)) (inner := [.int .i64 1, .int .i64 1]) (ok := fun _ => True) (okp := fun _ => True) ?hr ?hp (fun _ hk => hk) trivial (Below.refl _ _) (Nat.le_refl _) (by simp) ?_; (case hd => rfl); (case hg => rfl); (case hr => first | (go_simp; done) | (go_simp; rfl)); (case hp => exact (Reps.one (show Kd.M (Kd.int .i64) _ _ _ 1 [.int .i64 1] from rfl) (Reps.one (show Kd.M (Kd.int .i64) _ _ _ 1 [.int .i64 1] from rfl) (Reps.none _ _)))); intro v69 w69 ho hb hg_ hnew_; clear hg_ hnew_; obtain ⟨Al, cl, el_⟩ := Kd.R_slice ho; subst el_; have HL := Aside0.mk ho; have HOL := Aside0.mk (Kd.R_below HO.out hb); have HBL := Aside0.mk (below_step HB.out hb); clear ho hb HO HB))
                  refine (casketref09_put.owns kp1 (fun _ => True) _ _ [1, 1] _ _ _ _ (Kd.R_V HL.out) HPF1.out).mono ?_
                  rintro e w4 ⟨vo, rfl, ho, hb⟩
                  obtain ⟨Ao, co, eo⟩ := Kd.R_slice ho
                  subst eo
                  have HL4 := Aside0.mk ho
                  have HO4 := Aside0.mk (Kd.R_below HOL.out hb)
                  have HB4 := Aside0.mk (below_step HBL.out hb)
                  clear ho hb HL HOL HBL
                  go_wp2_with (fail)
                  refine (casketref09_put.owns kp2 (fun _ => True) Ao co _ _ _ _ _ (Kd.R_V HL4.out) HPF2.out).mono ?_
                  rintro e w5 ⟨vo, rfl, ho, hb⟩
                  obtain ⟨Ap, cp, eo⟩ := Kd.R_slice ho
                  subst eo
                  have HL := Aside0.mk ho
                  have HOL := Aside0.mk (Kd.R_below HO4.out hb)
                  have HBL := Aside0.mk (below_step HB4.out hb)
                  clear ho hb HL4 HO4 HB4
                  go_wp2_with (fail)
                  refine (casketref09_put.owns kp3 (fun _ => True) Ap cp _ _ _ _ _ (Kd.R_V HL.out) HPF3.out).mono ?_
                  rintro e w6 ⟨vo, rfl, ho, hb⟩
                  obtain ⟨Aq, cq, eo⟩ := Kd.R_slice ho
                  subst eo
                  obtain ⟨LO, hLO⟩ : ∃ LO : List Int, (([1, 1] ++ bitsOf 5 (an : Int)) ++ bitsOf 6 (rm : Int)) ++ bitsOf RW (x / 2 ^ zn) = LO := ⟨_, rfl⟩
                  have HLL := Aside0.mk (show LO.length ≤ 80 from by rw [← hLO]; have := HRW.out; simp only [List.length_append, bitsOf_length, List.length_cons, List.length_nil]; omega)
                  rw [hLO] at ho ⊢
                  have HLO := Aside0.mk hLO
                  clear hLO
                  have HL4 := Aside0.mk (Kd.R_reads' ho)
                  have HO4 := Aside0.mk (Kd.R_below HOL.out hb)
                  have HB4 := Aside0.mk (below_step HBL.out hb)
                  clear ho hb HL HOL HBL
                  go_wp2_with (first
                    | ((with_reducible refine gate_builtin (b := .append) (xs := #[.tmp 90, .tmp 91]) rfl ?_); at_builtin; refine Kd.R_append_rows (Kd.int .i64) (w0 := w) w.heap.size rfl (.tmp 90) (.tmp 91) 49 3 (.int .i64 0) 8 rfl Tryd.underlying49 info3 rfl (by decide) (by omega) u4 (gB l0 i) LO _ _ _ (fun _ => True) (fun _ => False) rfl rfl ?aO ?aR (fun _ _ h => h) (fun _ h => h.elim) ?aF ?aB ?aS ?aL ?_; (case aR => exact HL4.out.2.2); (case aB => exact HB4.out); (case aF => exact (fun _ _ => trivial)); (case aO => exact HO4.out); (case aS => exact (below_size HB4.out)); (case aL => have := HRM.out; have := HLL.out; omega); intro v155 w12 ho hb hg hat; have HB9 := Aside0.mk hb; have HO9 := Aside0.mk ho; clear ho hb hg hat))
                  go_roundg (l0.length - (i + 1))
                  case measure => exact (by have := HN.out; omega)
                  case rel =>
                    rw [HW.out]
                    exact ⟨i + 1, (an : Int), (zn : Int), rfl, rfl, rfl, rfl, hlt, ⟨by rw [HWT.out, HS.out.2]; exact .inr ⟨HAN.out, rfl⟩⟩, HB9, ⟨by rw [HGS.out, HIT.out, HS.out.1, ← List.append_assoc [1, 1], ← List.append_assoc ([1, 1] ++ _), HLO.out]; exact HO9.out⟩⟩
        · have c3 : decide ((i : Int) < (l0.length : Int)) = false := decide_eq_false (by omega)
          have c4 : decide (i < l0.length) = false := decide_eq_false hlt
          obtain rfl : i = l0.length := by omega
          obtain ⟨A5, q5, e5⟩ := Kd.R_slice HO.out
          subst e5
          have HRO := Aside0.mk (Kd.R_reads' HO.out)
          obtain ⟨kb, hkb⟩ := (rBytes_ev (gB l0 l0.length) (gB_01 _ _) (by have := gB_room2 HU.out HN.out.1 hi; omega)).get
          have HKB := Aside0.mk hkb
          clear hkb
          go_wp2_with (fail)
          refine (casketref01_Bytes.calls kb A5 q5 _ _ _ HRO.out.2.2 HRO.out.2.1 HKB.out).mono ?_
          rintro e w6 ⟨v6, rfl, ho, hb⟩
          have HO6 := Aside0.mk (Kd.R_lower ho (below_size HB.out))
          have HB6 := Aside0.mk (below_step HB.out hb)
          clear ho hb HO HB HRO
          go_wp2
          go_ret2
          rw [← H.out]
          exact ⟨_, rfl, HO6.out, HB6.out⟩
end Go.Proofs.YtfpnoceppjjafaaDoor.P
