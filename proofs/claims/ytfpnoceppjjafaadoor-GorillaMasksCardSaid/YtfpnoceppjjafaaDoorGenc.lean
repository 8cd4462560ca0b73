/- gorilla.Encode: its contract. -/
import Derived.Test.YtfpnoceppjjafaaDoorGbit
import Derived.WalkMore
namespace Go.Proofs.YtfpnoceppjjafaaDoor.P
open Go.RowKit Go.Proofs.YtfpnoceppjjafaaDoor.Kit Go.Proofs.YtfpnoceppjjafaaDoorW.PrintWords Go.Proofs.YtfpnoceppjjafaaDoorW.PrintLast Go.Proofs.YtfpnoceppjjafaaDoorW.PrintMore
attribute [local go_sem] max2_int min2_int max_two min_two
set_option linter.unusedVariables false
set_option linter.unusedSimpArgs false

def gorilla_Encode.f (l : List Int) : Option (List Int × Int) := if (∀ x ∈ l, 0 ≤ x ∧ x ≤ 18446744073709551615) ∧ l.length < 140737488355328 then some (gEnc l) else none
theorem put_keeps {w0 w w' : World} {g gw t : Nat} {f0 : List Int} {cs : Array Value} (hI : IsS40 w0 w g f0) (hk : KeepW w w' g) (h : w.heap[gw]? = some (.cells cs t (0, 0))) (ht : t ≠ 40 ∧ t ≠ 5) : w'.heap[gw]? = some (.cells cs t (0, 0)) := by
  obtain ⟨b, n, ⟨v, hg, hb, hr⟩, hx⟩ := hI
  have hne : gw ≠ g := by
    rintro rfl
    rw [hg] at h
    injection h with h
    injection h with _ h5
    exact ht.1 h5.symm
  refine (hk.2 gw (blk_lt h) hne fun cells hc => ?_).trans h
  rw [h] at hc
  injection hc with hc
  injection hc with _ h5
  exact ht.2 h5
theorem gB_room {l : List Int} (hu : ∀ x ∈ l, U x) (hl : l.length ≤ 65536) {i : Nat} (hi : i ≤ l.length) : (gB l i).length ≤ 5046272 := by
  have := gB_len hu i hi
  omega
set_option maxHeartbeats 4000000 in
set_option maxRecDepth 100000 in
theorem gorilla_Encode.calls (A0 : Option Addr) (c0 : Nat) (l0 : List Int) (r1 : List Int) (r2 : Int) (w : World) (hr0 : Kd.C (Kd.int .u64) w A0 l0.length l0) (hc0 : l0.length ≤ c0) (h : gorilla_Encode.f l0 = some (r1, r2)) (hT : Tab w := by first | assumption | exact Aside0.out ‹Aside0 (Tab _)› | exact Tab.below (Aside0.out ‹Aside0 (Tab _)›) (by repeat (first | (with_reducible first | exact Aside0.out ‹Aside0 (Below _ _ _)› | apply below_alloc | apply pw_below_drewN | apply below_drew1)))) :
    Calls Tryd.prog 10 #[.slice A0 l0.length c0] w fun e w' => ∃ v0_ : Value, e = .returned (.tuple #[v0_, .int .i64 r2]) ∧ Kd.R (Kd.int .u8) 5 w' w.heap.size (fun _ => True) v0_ r1 ∧ Below w.heap.size w w' := by
  unfold gorilla_Encode.f at h
  split at h
  case isFalse => cases h
  case isTrue hc =>
    injection h with h
    unfold gEnc at h
    obtain ⟨hu, hl⟩ := hc
    by_cases h65 : 65536 < l0.length
    · rw [if_pos h65] at h
      injection h with h1 h2
      subst h1 h2
      have c1 : decide (65536 < (l0.length : Int)) = true := decide_eq_true (by omega)
      have c2 : decide (65536 < l0.length) = true := decide_eq_true h65
      clear hr0 hc0 hu hl h65 hT
      go_enter Tryd.func10, Tryd.ntmps10
      go_wp2
      go_ret2
      exact ⟨_, rfl, Kd.R_nil _ _ _ _ _, Below.refl _ _⟩
    · rw [if_neg h65] at h
      injection h with h1 h2
      subst h2
      have c1 : decide (65536 < (l0.length : Int)) = false := decide_eq_false (by omega)
      have c2 : decide (65536 < l0.length) = false := decide_eq_false h65
      have H := Aside0.mk h1
      have HR := Aside0.mk hr0
      have HU := Aside0.mk (show ∀ x ∈ l0, U x from hu)
      have HN := Aside0.mk (show l0.length ≤ 65536 ∧ l0.length ≤ c0 from ⟨by omega, hc0⟩)
      have HT := Aside0.mk hT
      have hu42 := Tryd.underlying42
      clear hr0 hc0 hu hl h65 h1 hT
      go_enter Tryd.func10, Tryd.ntmps10
      go_wp2_with (first
        | (go_at_call 16; have HBX := Aside0.mk (IsS40.box (w0 := w) (W := w.alloc (.cells #[.slice none 0 0, .int .i64 0] 40)) (g := w.heap.size) (MapKept.heap_alloc w _).1 (Nat.le_refl _)); refine (gorilla_none.calls (-1) 0 _ rfl).mono ?_; rintro e w3 ⟨rfl, hb⟩; have HI := Aside0.mk (HBX.out.below hb); have HB := Aside0.mk (below_step (below_alloc (Below.refl w.heap.size w) _) hb); clear HBX hb)
        | ((with_reducible refine gate_dst (N := 5) rfl ?_); refine box_event ?hg (N := 5) ?hd (cs := #[.int .i64 0, .int .i64 0]) (t := 42) ?hr ?_; (case hd => rfl); (case hg => rfl); (case hr => first | (go_simp; done) | (go_simp; rfl)); intro gw hg w4 hbox hb; have HI4 := Aside0.mk (HI.out.below hb); have HB4 := Aside0.mk (below_step HB.out hb); have BK := Aside0.mk hbox; have GE := Aside0.mk ((by rw [hg]; exact (below_size HB.out)) : w.heap.size ≤ gw); clear HI HB hbox hb hg; have hcz0 : w4.cell? ⟨gw, 0, none⟩ = some (.int .i64 0) := (blk_cell BK.out 0).trans rfl; have hcz1 : w4.cell? ⟨gw, 1, none⟩ = some (.int .i64 0) := (blk_cell BK.out 1).trans rfl; have hfz0 := blk_frozen BK.out 0; have hfz1 := blk_frozen BK.out 1))
      have HW0 := Aside0.mk (show ((w4.setCell ⟨gw, 0, none⟩ (.int .i64 (-1))).setCell ⟨gw, 1, none⟩ (.int .i64 0)).heap[gw]? = some (.cells #[.int .i64 (-1), .int .i64 0] 42 (0, 0)) from by
        refine blk_put (cs := #[.int .i64 (-1), .int .i64 0]) ?_ 1 _ rfl
        refine blk_put (cs := #[.int .i64 0, .int .i64 0]) ?_ 0 _ rfl
        exact BK.out)
      have HI0 := Aside0.mk (IsS40.set (IsS40.set HI4.out BK.out (by decide) 0 (.int .i64 (-1))) (blk_put (cs' := #[.int .i64 (-1), .int .i64 0]) BK.out 0 _ rfl) (by decide) 1 (.int .i64 0))
      have HB0 := Aside0.mk (show Below w.heap.size w ((w4.setCell ⟨gw, 0, none⟩ (.int .i64 (-1))).setCell ⟨gw, 1, none⟩ (.int .i64 0)) from below_set (below_set HB4.out GE.out) GE.out)
      clear HB4 HI4 c1 c2 hcz0 hcz1 hfz0 hfz1
      go_loopg [17] l0.length (fun kq v17 W' => ∃ i : Nat, v17 = .int .i64 (i : Int) ∧ kq = l0.length - i ∧ i ≤ l0.length ∧ Aside0 (IsS40 w W' w.heap.size (gB l0 i)) ∧ Aside0 (Below w.heap.size w W') ∧ Aside0 (W'.heap[gw]? = some (.cells #[.int .i64 (gW l0 i).1, .int .i64 (gW l0 i).2] 42 (0, 0))))
      case atStart => exact ⟨0, rfl, rfl, Nat.zero_le _, HI0, HB0, HW0⟩
      case round =>
        clear HI0 HB0 HW0 BK
        obtain ⟨i, rfl, rfl, hi, HI, HB, HG⟩ := hrel
        by_cases hlt : i < l0.length
        · have c3 : decide ((i : Int) < (l0.length : Int)) = true := decide_eq_true (by omega)
          have c4 : decide (i < l0.length) = true := decide_eq_true hlt
          obtain ⟨ad2, e2, hx⟩ := Kd.at_int HR.out (i : Int) (by omega) (by omega)
          subst e2
          rw [Int.toNat_natCast] at hx
          replace hx := (HB.out.cell (World.block_lt_of_cell? w _ hx)).trans hx
          have HW := Aside0.mk (show wrap64 ((i : Int) + 1) = ((i + 1 : Nat) : Int) from by have := HN.out; rw [wrap64_id (by omega) (by omega)]; omega)
          have hroom := gB_room HU.out HN.out.1 hi
          have HV := Aside0.mk (HU.out _ (rd_mem l0 (i : Int) (by omega) (by omega)))
          have HGS := Aside0.mk (gB_succ l0 i)
          by_cases h0 : i = 0
          · have c5 : ((i : Int) == 0) = true := by rw [h0]; rfl
            have HPF := Aside0.mk (put_ok (w := 64) (s := gB l0 i) (v := rd l0 (i : Int)) (by omega) HV.out (by decide) (bl64 HV.out))
            have HIT := Aside0.mk (show gItem l0 i = bitsOf 64 (rd l0 (i : Int)) ∧ gW l0 (i + 1) = gW l0 i from by rw [h0]; exact ⟨rfl, rfl⟩)
            clear hroom h0
            go_wp2_with (fail)
            refine (bits_Writer_Put.calls w.heap.size _ _ _ _ _ w _ HI.out HB.out HPF.out).mono ?_
            rintro e w4 ⟨rfl, hi, hb, hk⟩
            have HG4 := Aside0.mk (put_keeps HI.out hk HG.out (by decide))
            have HI4 := Aside0.mk hi
            have HB4 := Aside0.mk hb
            clear hi hb hk
            go_wp2
            go_roundg (l0.length - (i + 1))
            case measure => exact (by have := HN.out; omega)
            case rel =>
              rw [HW.out]
              exact ⟨i + 1, rfl, rfl, hlt, ⟨by rw [HGS.out, HIT.out.1]; exact HI4.out⟩, HB4, ⟨by rw [HIT.out.2]; exact HG4.out⟩⟩
          · obtain ⟨j, hj⟩ : ∃ j, i = j + 1 := ⟨i - 1, by omega⟩
            have c5 : ((i : Int) == 0) = false := by rw [beq_eq_false_iff_ne]; omega
            have c7 : decide ((j : Int) < (l0.length : Int)) = true := decide_eq_true (by omega)
            have c8 : decide (j < l0.length) = true := decide_eq_true (by omega)
            have c9 : j < l0.length := by omega
            obtain ⟨ad3, e3, hy⟩ := Kd.at_int HR.out (j : Int) (by omega) (by omega)
            injection e3 with e3
            subst e3
            rw [Int.toNat_natCast] at hy
            replace hy := (HB.out.cell (World.block_lt_of_cell? w _ hy)).trans hy
            have hw1 : wrap64 ((i : Int) - 1) = (j : Int) := by have := HN.out; rw [wrap64_id (by omega) (by omega)]; omega
            have HXU := Aside0.mk (dx_U HU.out (show 0 < i by omega) hlt)
            have hok := gW_ok HU.out i hi
            have HIT := Aside0.mk (show gItem l0 i = stepB (gW l0 i) (dx l0 i) from if_neg h0)
            have HWT := Aside0.mk (show gW l0 (i + 1) = stepW (gW l0 i) (dx l0 i) from if_neg h0)
            have hdx0 : dx l0 i = xw (rd l0 (i : Int)) (rd l0 (j : Int)) := by
              unfold dx
              rw [show (i : Int) - 1 = (j : Int) by omega]
            have hdx : Go.bits .xor .u64 (rd l0 (i : Int)) (rd l0 (j : Int)) = dx l0 i := hdx0.symm
            generalize dx l0 i = x at *
            generalize hp : gW l0 i = p at *
            obtain ⟨a, z⟩ := p
            have hcz0 : wr.cell? ⟨gw, 0, none⟩ = some (.int .i64 a) := (blk_cell HG.out 0).trans rfl
            have hcz1 : wr.cell? ⟨gw, 1, none⟩ = some (.int .i64 z) := (blk_cell HG.out 1).trans rfl
            clear hdx0 h0 hj HV hp
            by_cases hx0 : x = 0
            · have c6 : (x == 0) = true := by rw [hx0]; rfl
              have HPF := Aside0.mk (show bits_Writer_Put.f (gB l0 i) 0 1 = some (0, gB l0 i ++ bitsOf 1 0) from put_small (v := 0) (w := 1) (by omega) (by decide) (by decide))
              have HS := Aside0.mk (show stepB (a, z) x = bitsOf 1 0 ∧ stepW (a, z) x = (a, z) from ⟨if_pos hx0, if_pos hx0⟩)
              clear hroom hx0 hok
              go_wp2_with (fail)
              refine (bits_Writer_Put.calls w.heap.size _ _ _ _ _ w _ HI.out HB.out HPF.out).mono ?_
              rintro e w4 ⟨rfl, hi, hb, hk⟩
              have HG4 := Aside0.mk (put_keeps HI.out hk HG.out (by decide))
              have HI4 := Aside0.mk hi
              have HB4 := Aside0.mk hb
              clear hi hb hk
              go_wp2
              go_roundg (l0.length - (i + 1))
              case measure => exact (by have := HN.out; omega)
              case rel =>
                rw [HW.out]
                exact ⟨i + 1, rfl, rfl, hlt, ⟨by rw [HGS.out, HIT.out, HS.out.1]; exact HI4.out⟩, HB4, ⟨by rw [HWT.out, HS.out.2]; exact HG4.out⟩⟩
            · have c6 : (x == 0) = false := by rw [beq_eq_false_iff_ne]; exact hx0
              by_cases hf : fitsW a z x = true
              · obtain ⟨f1, f2, f3⟩ := fitsW_true hf
                have hw : 0 ≤ a ∧ a ≤ 31 ∧ 0 ≤ z ∧ a + z ≤ 63 := by
                  rcases hok with e | e
                  · injection e with e1 e2
                    exact absurd ⟨e1, e2⟩ f1
                  · exact e
                have HFU := Aside0.mk (shr_fit HXU.out hw.1 hw.2.2.1 (by omega) f2)
                have HS := Aside0.mk (show stepB (a, z) x = bitsOf 2 2 ++ bitsOf (64 - a - z).toNat (x / 2 ^ z.toNat) ∧ stepW (a, z) x = (a, z) from ⟨(if_neg hx0).trans (if_pos hf), (if_neg hx0).trans (if_pos hf)⟩)
                obtain ⟨zn, rfl⟩ := Int.eq_ofNat_of_zero_le hw.2.2.1
                rw [Int.toNat_natCast] at HFU HS
                obtain ⟨RW, hRW⟩ : ∃ RW : Nat, (64 - a - (zn : Int)).toNat = RW := ⟨_, rfl⟩
                rw [hRW] at HS
                have HRS := Aside0.mk (show gorilla_window_rest.f a (zn : Int) = some (RW : Int) from by
                  unfold gorilla_window_rest.f
                  rw [show wrap64 (64 - a) = 64 - a from wrap64_id (by omega) (by omega), wrap64_id (by omega) (by omega)]
                  congr 1
                  omega)
                have HPF := Aside0.mk (show bits_Writer_Put.f (gB l0 i) 2 2 = some (0, gB l0 i ++ bitsOf 2 2) from put_small (v := 2) (w := 2) (by omega) (by decide) (by decide))
                have HPF2 := Aside0.mk (put_ok (s := gB l0 i ++ bitsOf 2 2) (v := x / 2 ^ zn) (w := RW) (by rw [List.length_append, bitsOf_length]; omega) HFU.out.1 (by omega) (by have := HFU.out.2; omega))
                have HF := Aside0.mk hf
                have hz0 : (0 : Int) ≤ (zn : Int) := by omega
                have hz1 : (zn : Int) ≤ 64 := by omega
                have hz2 : zn ≤ 64 := by omega
                clear f1 f2 f3 hw hRW hf hroom hx0 hok HFU
                go_wp2_with (fail)
                refine (gorilla_window_fits.calls a (zn : Int) x _ _ HXU.out (HT.out.below HB.out) HF.out).mono ?_
                rintro e w3 ⟨rfl, hb⟩
                have HI3 := Aside0.mk (HI.out.below hb)
                have HB3 := Aside0.mk (below_step HB.out hb)
                have HG3 := Aside0.mk (blk_below HG.out hb)
                clear hb
                go_wp2_with (fail)
                refine (bits_Writer_Put.calls w.heap.size _ _ _ _ _ w _ HI3.out HB3.out HPF.out).mono ?_
                rintro e w4 ⟨rfl, hi, hb, hk⟩
                have HG4 := Aside0.mk (put_keeps HI3.out hk HG3.out (by decide))
                have HI4 := Aside0.mk hi
                have HB4 := Aside0.mk hb
                clear hi hb hk
                have hcz40 : w4.cell? ⟨gw, 0, none⟩ = some (.int .i64 a) := (blk_cell HG4.out 0).trans rfl
                have hcz41 : w4.cell? ⟨gw, 1, none⟩ = some (.int .i64 (zn : Int)) := (blk_cell HG4.out 1).trans rfl
                go_upto_region 19 with (fail)
                refine start_ (n := 8) (S := fun w' => w'.cell? ⟨gw, 0, none⟩ = some (.int .i64 a) ∧ w'.cell? ⟨gw, 1, none⟩ = some (.int .i64 (zn : Int))) (ds := []) #[false, false, false, false, false, false, false, false] (by kernel_rfl) rfl rfl ⟨hcz40, hcz41⟩ (fun hHeld => ?_)
                refine pure_ (i := 0) (N := some 60) (v := ?_) (a' := ?_) #[true, false, false, false, false, false, false, false] rfl rfl (by kernel_rfl) (fun _ _ _ h => h) (Or.inl ⟨by rfl, ?_⟩) ?_ ?_
                rotate_left
                · intro w'
                  go_simp
                  with_reducible rfl
                rotate_left
                · simp only [Act.put, List.setIfInBounds_toArray, List.set_cons_zero, List.set_cons_succ, i64_w, i32_w]
                  rfl
                refine pure_ (i := 1) (N := some 61) (v := ?_) (a' := ?_) #[true, true, false, false, false, false, false, false] rfl rfl (by kernel_rfl) (fun _ _ _ h => h) (Or.inl ⟨by rfl, ?_⟩) ?_ ?_
                rotate_left
                · intro w'
                  go_simp
                  with_reducible rfl
                rotate_left
                · simp only [Act.put, List.setIfInBounds_toArray, List.set_cons_zero, List.set_cons_succ, i64_w, i32_w]
                  rfl
                refine pure_ (i := 2) (N := some 62) (v := ?_) (a' := ?_) #[true, true, true, false, false, false, false, false] rfl rfl (by kernel_rfl) (fun _ _ _ h => h) (Or.inl ⟨by rfl, ?_⟩) ?_ ?_
                rotate_left
                · intro w'
                  go_simp
                  with_reducible rfl
                rotate_left
                · simp only [Act.put, List.setIfInBounds_toArray, List.set_cons_zero, List.set_cons_succ, i64_w, i32_w]
                  rfl
                refine take_ (i := 3) (N := some 63) (v := ?_) (a' := ?_) #[true, true, true, true, false, false, false, false] rfl rfl (by kernel_rfl) (fun _ _ _ h => h) (Or.inl ⟨by rfl, ?_⟩) hHeld ?_ ?_
                rotate_left
                · rintro w' ⟨s0, s1⟩
                  go_simp
                  with_reducible rfl
                rotate_left
                · simp only [Act.put, List.setIfInBounds_toArray, List.set_cons_zero, List.set_cons_succ, i64_w, i32_w]
                  rfl
                refine pure_ (i := 4) (N := some 64) (v := ?_) (a' := ?_) #[true, true, true, true, true, false, false, false] rfl rfl (by kernel_rfl) (fun _ _ _ h => h) (Or.inl ⟨by rfl, ?_⟩) ?_ ?_
                rotate_left
                · intro w'
                  go_simp
                  with_reducible rfl
                rotate_left
                · simp only [Act.put, List.setIfInBounds_toArray, List.set_cons_zero, List.set_cons_succ, i64_w, i32_w]
                  rfl
                refine take_ (i := 5) (N := some 65) (v := ?_) (a' := ?_) #[true, true, true, true, true, true, false, false] rfl rfl (by kernel_rfl) (fun _ _ _ h => h) (Or.inl ⟨by rfl, ?_⟩) hHeld ?_ ?_
                rotate_left
                · rintro w' ⟨s0, s1⟩
                  go_simp
                  with_reducible rfl
                rotate_left
                · simp only [Act.put, List.setIfInBounds_toArray, List.set_cons_zero, List.set_cons_succ, i64_w, i32_w]
                  rfl
                refine one_ (i := 6) (N := some 66) #[true, true, true, true, true, true, true, false] rfl rfl (by kernel_rfl) (by decide) (fun K hK => ?_)
                refine goes_ Tryd.func20 (by kernel_rfl) rfl #[.agg #[.int .i64 a, .int .i64 (zn : Int)]] (by rfl) rfl rfl (by simp only [List.map_toArray, List.map_cons, List.map_nil]; first | done | rfl) ?_
                with_reducible refine (gorilla_window_rest.calls _ _ (RW : Int) _ HRS.out).mono ?_
                rintro e w8 ⟨rfl, hb⟩
                refine ⟨_, rfl, ?_⟩
                have HB8 := Aside0.mk (below_step (below_drew1 HB4.out) hb)
                have HI8 := Aside0.mk (IsS40.below HI4.out.drew hb)
                have HG8 := Aside0.mk (blk_below (blk_drew HG4.out) hb)
                clear hb
                refine hK.out _ _ ⟨(blk_cell HG8.out 0).trans rfl, (blk_cell HG8.out 1).trans rfl⟩ (fun hHeld => ?_)
                clear hK K
                refine norm_ (a' := ?_) ?_ ?_
                rotate_left
                · show Act.put _ (some 66) _ = _
                  simp only [Act.put, List.setIfInBounds_toArray, List.set_cons_zero, List.set_cons_succ, i64_w, i32_w]
                  rfl
                refine one_ (i := 7) (N := some 67) #[true, true, true, true, true, true, true, true] rfl rfl (by kernel_rfl) (by decide) (fun K hK => ?_)
                refine goes_ Tryd.func17 (by kernel_rfl) rfl #[.pointer (some ⟨w.heap.size, 0, none⟩), .int .u64 (x / 2 ^ zn), .int .i64 (RW : Int)] (by rfl) rfl rfl (by simp only [List.map_toArray, List.map_cons, List.map_nil]; first | done | rfl) ?_
                with_reducible refine (bits_Writer_Put.calls _ _ _ _ _ _ w _ HI8.out HB8.out HPF2.out).mono ?_
                rintro e w9 ⟨rfl, hi, hb, hk⟩
                refine ⟨_, rfl, ?_⟩
                have HG9 := Aside0.mk (put_keeps HI8.out hk HG8.out (by decide))
                have HB9 := Aside0.mk hb
                have HI9 := Aside0.mk hi
                clear hi hb hk
                refine hK.out _ _ ⟨(blk_cell HG9.out 0).trans rfl, (blk_cell HG9.out 1).trans rfl⟩ (fun hHeld => ?_)
                clear hK K
                refine norm_ (a' := ?_) ?_ ?_
                rotate_left
                · show Act.put _ (some 67) _ = _
                  simp only [Act.put, List.setIfInBounds_toArray, List.set_cons_zero, List.set_cons_succ, i64_w, i32_w]
                  rfl
                refine done_ (by kernel_rfl) ?_

                go_wp2
                go_roundg (l0.length - (i + 1))
                case measure => exact (by have := HN.out; omega)
                case rel =>
                  rw [HW.out]
                  exact ⟨i + 1, rfl, rfl, hlt, ⟨by rw [HGS.out, HIT.out, HS.out.1, ← List.append_assoc]; exact HI9.out⟩, HB9, ⟨by rw [HWT.out, HS.out.2]; exact HG9.out⟩⟩
              · have hf : fitsW a z x = false := by simpa using hf
                have hw := ld_le HXU.out
                have hzz := tz_le HXU.out
                have hlz := lz_tz HXU.out hx0
                have HFU := Aside0.mk (shr_fit HXU.out hw.1 hzz.1 (by omega) hw.2.2)
                have hnf : ¬ fitsW a z x = true := by rw [hf]; decide
                have HS := Aside0.mk (show stepB (a, z) x = bitsOf 2 3 ++ (bitsOf 5 (ld x) ++ (bitsOf 6 (63 - ld x - tz x) ++ bitsOf (64 - ld x - tz x).toNat (x / 2 ^ (tz x).toNat))) ∧ stepW (a, z) x = (ld x, tz x) from ⟨(if_neg hx0).trans (if_neg hnf), (if_neg hx0).trans (if_neg hnf)⟩)
                have HOF := Aside0.mk (fun w' h => gorilla_of.calls x w' HXU.out h)
                generalize ld x = A at *
                generalize tz x = Z at *
                obtain ⟨an, rfl⟩ := Int.eq_ofNat_of_zero_le hw.1
                obtain ⟨zn, rfl⟩ := Int.eq_ofNat_of_zero_le hzz.1
                rw [Int.toNat_natCast] at HFU HS
                obtain ⟨RW, hRW⟩ : ∃ RW : Nat, (64 - (an : Int) - (zn : Int)).toNat = RW := ⟨_, rfl⟩
                obtain ⟨rm, hrm⟩ : ∃ rm : Nat, 63 - (an : Int) - (zn : Int) = (rm : Int) := ⟨_, (Int.toNat_of_nonneg (by omega)).symm⟩
                rw [hRW, hrm] at HS
                have HRS := Aside0.mk (show gorilla_window_rest.f (an : Int) (zn : Int) = some (RW : Int) from by
                  unfold gorilla_window_rest.f
                  rw [show wrap64 (64 - (an : Int)) = 64 - (an : Int) from wrap64_id (by omega) (by omega), wrap64_id (by omega) (by omega)]
                  congr 1
                  omega)
                have hwr1 : IntKind.u64.wrap (an : Int) = (an : Int) := k64_id _ (by omega) (by omega)
                have hwr2 : wrap64 ((RW : Int) - 1) = (rm : Int) := by rw [wrap64_id (by omega) (by omega)]; omega
                have hwr3 : IntKind.u64.wrap (rm : Int) = (rm : Int) := k64_id _ (by omega) (by omega)
                have HPF1 := Aside0.mk (show bits_Writer_Put.f (gB l0 i) 3 2 = some (0, gB l0 i ++ bitsOf 2 3) from put_small (v := 3) (w := 2) (by omega) (by decide) (by decide))
                have HPF2 := Aside0.mk (show bits_Writer_Put.f (gB l0 i ++ bitsOf 2 3) (an : Int) 5 = some (0, (gB l0 i ++ bitsOf 2 3) ++ bitsOf 5 (an : Int)) from put_small (v := an) (w := 5) (by rw [List.length_append, bitsOf_length]; omega) (by decide) (by omega))
                have HPF3 := Aside0.mk (show bits_Writer_Put.f ((gB l0 i ++ bitsOf 2 3) ++ bitsOf 5 (an : Int)) (rm : Int) 6 = some (0, ((gB l0 i ++ bitsOf 2 3) ++ bitsOf 5 (an : Int)) ++ bitsOf 6 (rm : Int)) from put_small (v := rm) (w := 6) (by simp only [List.length_append, bitsOf_length]; omega) (by decide) (by omega))
                have HPF4 := Aside0.mk (put_ok (s := ((gB l0 i ++ bitsOf 2 3) ++ bitsOf 5 (an : Int)) ++ bitsOf 6 (rm : Int)) (v := x / 2 ^ zn) (w := RW) (by simp only [List.length_append, bitsOf_length]; omega) HFU.out.1 (by omega) (by have := HFU.out.2; omega))
                have HF := Aside0.mk hf
                have hz0 : (0 : Int) ≤ (zn : Int) := by omega
                have hz1 : (zn : Int) ≤ 64 := by omega
                have hz2 : zn ≤ 64 := by omega
                clear hw hzz hlz hRW hrm hf hnf hroom hx0 hok HFU
                go_wp2_with (fail)
                refine (gorilla_window_fits.calls a z x _ _ HXU.out (HT.out.below HB.out) HF.out).mono ?_
                rintro e w3 ⟨rfl, hb⟩
                have HI3 := Aside0.mk (HI.out.below hb)
                have HB3 := Aside0.mk (below_step HB.out hb)
                have HG3 := Aside0.mk (blk_below HG.out hb)
                clear hb
                go_wp2_with (fail)
                refine (HOF.out _ (HT.out.below HB3.out)).mono ?_
                rintro e w4 ⟨rfl, hb⟩
                have HI4 := Aside0.mk (HI3.out.below hb)
                have HB4 := Aside0.mk (below_step HB3.out hb)
                have HG4 := Aside0.mk (blk_below HG3.out hb)
                clear hb
                have hcz40 : w4.cell? ⟨gw, 0, none⟩ = some (.int .i64 a) := (blk_cell HG4.out 0).trans rfl
                have hcz41 : w4.cell? ⟨gw, 1, none⟩ = some (.int .i64 z) := (blk_cell HG4.out 1).trans rfl
                have hfz0 := blk_frozen HG4.out 0
                have hfz1 := blk_frozen HG4.out 1
                go_wp2_with (fail)
                have HG5 := Aside0.mk (show ((w4.setCell ⟨gw, 0, none⟩ (.int .i64 (an : Int))).setCell ⟨gw, 1, none⟩ (.int .i64 (zn : Int))).heap[gw]? = some (.cells #[.int .i64 (an : Int), .int .i64 (zn : Int)] 42 (0, 0)) from by
                  refine blk_put (cs := #[.int .i64 (an : Int), .int .i64 z]) ?_ 1 _ rfl
                  refine blk_put (cs := #[.int .i64 a, .int .i64 z]) ?_ 0 _ rfl
                  exact HG4.out)
                have HI5 := Aside0.mk (IsS40.set (IsS40.set HI4.out HG4.out (by decide) 0 (.int .i64 (an : Int))) (blk_put (cs' := #[.int .i64 (an : Int), .int .i64 z]) HG4.out 0 _ rfl) (by decide) 1 (.int .i64 (zn : Int)))
                have HB5 := Aside0.mk (show Below w.heap.size w ((w4.setCell ⟨gw, 0, none⟩ (.int .i64 (an : Int))).setCell ⟨gw, 1, none⟩ (.int .i64 (zn : Int))) from below_set (below_set HB4.out GE.out) GE.out)
                clear hcz40 hcz41 hfz0 hfz1
                refine (bits_Writer_Put.calls w.heap.size _ _ _ _ _ w _ HI5.out HB5.out HPF1.out).mono ?_
                rintro e w6 ⟨rfl, hi, hb, hk⟩
                have HG6 := Aside0.mk (put_keeps HI5.out hk HG5.out (by decide))
                have HI6 := Aside0.mk hi
                have HB6 := Aside0.mk hb
                clear hi hb hk
                have hcz60 : w6.cell? ⟨gw, 0, none⟩ = some (.int .i64 (an : Int)) := (blk_cell HG6.out 0).trans rfl
                have hcz61 : w6.cell? ⟨gw, 1, none⟩ = some (.int .i64 (zn : Int)) := (blk_cell HG6.out 1).trans rfl
                go_wp2_with (fail)
                refine (bits_Writer_Put.calls w.heap.size _ _ _ _ _ w _ HI6.out HB6.out HPF2.out).mono ?_
                rintro e w7 ⟨rfl, hi, hb, hk⟩
                have HG7 := Aside0.mk (put_keeps HI6.out hk HG6.out (by decide))
                have HI7 := Aside0.mk hi
                have HB7 := Aside0.mk hb
                clear hi hb hk
                have hcz70 : w7.cell? ⟨gw, 0, none⟩ = some (.int .i64 (an : Int)) := (blk_cell HG7.out 0).trans rfl
                have hcz71 : w7.cell? ⟨gw, 1, none⟩ = some (.int .i64 (zn : Int)) := (blk_cell HG7.out 1).trans rfl
                go_wp2_with (fail)
                refine (gorilla_window_rest.calls _ _ (RW : Int) _ HRS.out).mono ?_
                rintro e w8 ⟨rfl, hb⟩
                have HI8 := Aside0.mk (HI7.out.below hb)
                have HB8 := Aside0.mk (below_step HB7.out hb)
                have HG8 := Aside0.mk (blk_below HG7.out hb)
                clear hb
                go_wp2_with (fail)
                refine (bits_Writer_Put.calls w.heap.size _ _ _ _ _ w _ HI8.out HB8.out HPF3.out).mono ?_
                rintro e w10 ⟨rfl, hi, hb, hk⟩
                have HG10 := Aside0.mk (put_keeps HI8.out hk HG8.out (by decide))
                have HI10 := Aside0.mk hi
                have HB10 := Aside0.mk hb
                clear hi hb hk
                clear HI8 HB8 HG8
                have hcz100 : w10.cell? ⟨gw, 0, none⟩ = some (.int .i64 (an : Int)) := (blk_cell HG10.out 0).trans rfl
                have hcz101 : w10.cell? ⟨gw, 1, none⟩ = some (.int .i64 (zn : Int)) := (blk_cell HG10.out 1).trans rfl
                go_upto_region 19 with (fail)
                refine start_ (n := 8) (S := fun w' => w'.cell? ⟨gw, 0, none⟩ = some (.int .i64 (an : Int)) ∧ w'.cell? ⟨gw, 1, none⟩ = some (.int .i64 (zn : Int))) (ds := []) #[false, false, false, false, false, false, false, false] (by kernel_rfl) rfl rfl ⟨hcz100, hcz101⟩ (fun hHeld => ?_)
                refine pure_ (i := 0) (N := some 60) (v := ?_) (a' := ?_) #[true, false, false, false, false, false, false, false] rfl rfl (by kernel_rfl) (fun _ _ _ h => h) (Or.inl ⟨by rfl, ?_⟩) ?_ ?_
                rotate_left
                · intro w'
                  go_simp
                  with_reducible rfl
                rotate_left
                · simp only [Act.put, List.setIfInBounds_toArray, List.set_cons_zero, List.set_cons_succ, i64_w, i32_w]
                  rfl
                refine pure_ (i := 1) (N := some 61) (v := ?_) (a' := ?_) #[true, true, false, false, false, false, false, false] rfl rfl (by kernel_rfl) (fun _ _ _ h => h) (Or.inl ⟨by rfl, ?_⟩) ?_ ?_
                rotate_left
                · intro w'
                  go_simp
                  with_reducible rfl
                rotate_left
                · simp only [Act.put, List.setIfInBounds_toArray, List.set_cons_zero, List.set_cons_succ, i64_w, i32_w]
                  rfl
                refine pure_ (i := 2) (N := some 62) (v := ?_) (a' := ?_) #[true, true, true, false, false, false, false, false] rfl rfl (by kernel_rfl) (fun _ _ _ h => h) (Or.inl ⟨by rfl, ?_⟩) ?_ ?_
                rotate_left
                · intro w'
                  go_simp
                  with_reducible rfl
                rotate_left
                · simp only [Act.put, List.setIfInBounds_toArray, List.set_cons_zero, List.set_cons_succ, i64_w, i32_w]
                  rfl
                refine take_ (i := 3) (N := some 63) (v := ?_) (a' := ?_) #[true, true, true, true, false, false, false, false] rfl rfl (by kernel_rfl) (fun _ _ _ h => h) (Or.inl ⟨by rfl, ?_⟩) hHeld ?_ ?_
                rotate_left
                · rintro w' ⟨s0, s1⟩
                  go_simp
                  with_reducible rfl
                rotate_left
                · simp only [Act.put, List.setIfInBounds_toArray, List.set_cons_zero, List.set_cons_succ, i64_w, i32_w]
                  rfl
                refine pure_ (i := 4) (N := some 64) (v := ?_) (a' := ?_) #[true, true, true, true, true, false, false, false] rfl rfl (by kernel_rfl) (fun _ _ _ h => h) (Or.inl ⟨by rfl, ?_⟩) ?_ ?_
                rotate_left
                · intro w'
                  go_simp
                  with_reducible rfl
                rotate_left
                · simp only [Act.put, List.setIfInBounds_toArray, List.set_cons_zero, List.set_cons_succ, i64_w, i32_w]
                  rfl
                refine take_ (i := 5) (N := some 65) (v := ?_) (a' := ?_) #[true, true, true, true, true, true, false, false] rfl rfl (by kernel_rfl) (fun _ _ _ h => h) (Or.inl ⟨by rfl, ?_⟩) hHeld ?_ ?_
                rotate_left
                · rintro w' ⟨s0, s1⟩
                  go_simp
                  with_reducible rfl
                rotate_left
                · simp only [Act.put, List.setIfInBounds_toArray, List.set_cons_zero, List.set_cons_succ, i64_w, i32_w]
                  rfl
                refine one_ (i := 6) (N := some 66) #[true, true, true, true, true, true, true, false] rfl rfl (by kernel_rfl) (by decide) (fun K hK => ?_)
                refine goes_ Tryd.func20 (by kernel_rfl) rfl #[.agg #[.int .i64 (an : Int), .int .i64 (zn : Int)]] (by rfl) rfl rfl (by simp only [List.map_toArray, List.map_cons, List.map_nil]; first | done | rfl) ?_
                with_reducible refine (gorilla_window_rest.calls _ _ (RW : Int) _ HRS.out).mono ?_
                rintro e w8 ⟨rfl, hb⟩
                refine ⟨_, rfl, ?_⟩
                have HB8 := Aside0.mk (below_step (below_drew1 HB10.out) hb)
                have HI8 := Aside0.mk (IsS40.below HI10.out.drew hb)
                have HG8 := Aside0.mk (blk_below (blk_drew HG10.out) hb)
                clear hb
                refine hK.out _ _ ⟨(blk_cell HG8.out 0).trans rfl, (blk_cell HG8.out 1).trans rfl⟩ (fun hHeld => ?_)
                clear hK K
                refine norm_ (a' := ?_) ?_ ?_
                rotate_left
                · show Act.put _ (some 66) _ = _
                  simp only [Act.put, List.setIfInBounds_toArray, List.set_cons_zero, List.set_cons_succ, i64_w, i32_w]
                  rfl
                refine one_ (i := 7) (N := some 67) #[true, true, true, true, true, true, true, true] rfl rfl (by kernel_rfl) (by decide) (fun K hK => ?_)
                refine goes_ Tryd.func17 (by kernel_rfl) rfl #[.pointer (some ⟨w.heap.size, 0, none⟩), .int .u64 (x / 2 ^ zn), .int .i64 (RW : Int)] (by rfl) rfl rfl (by simp only [List.map_toArray, List.map_cons, List.map_nil]; first | done | rfl) ?_
                with_reducible refine (bits_Writer_Put.calls _ _ _ _ _ _ w _ HI8.out HB8.out HPF4.out).mono ?_
                rintro e w9 ⟨rfl, hi, hb, hk⟩
                refine ⟨_, rfl, ?_⟩
                have HG9 := Aside0.mk (put_keeps HI8.out hk HG8.out (by decide))
                have HB9 := Aside0.mk hb
                have HI9 := Aside0.mk hi
                clear hi hb hk
                refine hK.out _ _ ⟨(blk_cell HG9.out 0).trans rfl, (blk_cell HG9.out 1).trans rfl⟩ (fun hHeld => ?_)
                clear hK K
                refine norm_ (a' := ?_) ?_ ?_
                rotate_left
                · show Act.put _ (some 67) _ = _
                  simp only [Act.put, List.setIfInBounds_toArray, List.set_cons_zero, List.set_cons_succ, i64_w, i32_w]
                  rfl
                refine done_ (by kernel_rfl) ?_

                go_wp2
                go_roundg (l0.length - (i + 1))
                case measure => exact (by have := HN.out; omega)
                case rel =>
                  rw [HW.out]
                  exact ⟨i + 1, rfl, rfl, hlt, ⟨by rw [HGS.out, HIT.out, HS.out.1, ← List.append_assoc, ← List.append_assoc, ← List.append_assoc]; exact HI9.out⟩, HB9, ⟨by rw [HWT.out, HS.out.2]; exact HG9.out⟩⟩
        · have c3 : decide ((i : Int) < (l0.length : Int)) = false := decide_eq_false (by omega)
          have c4 : decide (i < l0.length) = false := decide_eq_false hlt
          obtain rfl : i = l0.length := by omega
          have hroom := gB_room HU.out HN.out.1 hi
          have HBF := Aside0.mk (show bits_Writer_Bytes.f (gB l0 l0.length) = some (pack (gB l0 l0.length), gB l0 l0.length) from if_pos (by omega))
          clear hroom
          go_wp2_with (fail)
          refine (bits_Writer_Bytes.calls _ _ _ _ w _ HI.out HB.out HBF.out).mono ?_
          rintro e w6 ⟨v6, rfl, ho, hi, hb, hk⟩
          have HO := Aside0.mk (Kd.R_lower ho (below_size HB.out))
          have HB6 := Aside0.mk hb
          clear ho hi hb hk
          go_wp2
          go_ret2
          rw [← H.out]
          exact ⟨_, rfl, HO.out, HB6.out⟩
end Go.Proofs.YtfpnoceppjjafaaDoor.P
