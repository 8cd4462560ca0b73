/- Written by a program of this session (wip/pp.py) over the kit's printer, from the translation of the given program; Lean checks it. -/
import Derived.Test.YtfnnlcmfahadhaaPx0
import Derived.Test.YtfnnlcmfahadhaaPx4
import Derived.Test.YtfnnlcmfahadhaaPx7
import Derived.Test.YtfnnlcmfahadhaaDEnc
namespace Go.Proofs.Ytfnnlcmfahadhaa.P
open Go.RowKit Go.Proofs.YtfnnlcmfahadhaaW.PrintWords Go.Proofs.YtfnnlcmfahadhaaW.PrintLast Go.Proofs.YtfnnlcmfahadhaaW.PrintMore
attribute [local go_sem] max2_int min2_int max_two min_two max_three min_three max_four min_four   -- for this text's walks alone
set_option linter.unusedVariables false
set_option linter.unusedSimpArgs false

/-! ### casketlaw10_DictNames: function 7 -/
mutual
def casketlaw10_DictNames.l0 : Nat → List Int → Int → Bool → List Int → Int → Option (Bool)
  | 0, _, _, _, _, _ => none
  | k + 1, x0, x1, x5, x6, x7 => if x7 < (x0.length : Int) then (if 0 ≤ x7 then (if x6.length < 17592186044416 then (casketlaw10_DictNames.l0 k x0 x1 x5 (x6 ++ [Go.bits .xor .u64 (rd x0 x7) x1]) (wrap64 (x7 + 1))) else (none)) else (none)) else ((dict_Encode.f x0).bind fun bt420 => ((dict_Encode.f x6).bind fun bt424 => (if bt420.2 = 0 then (if bt424.2 = 0 then (if (bt420.1.length : Int) = (bt424.1.length : Int) then (casketlaw10_DictNames.j1 k x0 x5 bt420.1 bt424.1 ((bt420.1.length : Int) == 0)) else (casketlaw10_DictNames.j1 k x0 x5 bt420.1 bt424.1 true)) else (casketlaw10_DictNames.j1 k x0 x5 bt420.1 bt424.1 true)) else (casketlaw10_DictNames.j1 k x0 x5 bt420.1 bt424.1 true))))
def casketlaw10_DictNames.j1 : Nat → List Int → Bool → List Int → List Int → Bool → Option (Bool)
  | 0, _, _, _, _, _ => none
  | k + 1, x0, x5, x8, x10, x65 => if x65 = true then (some false) else (casketlaw10_DictNames.l1 k x0 x5 x8 x10 0 0)
def casketlaw10_DictNames.l1 : Nat → List Int → Bool → List Int → List Int → Int → Int → Option (Bool)
  | 0, _, _, _, _, _, _ => none
  | k + 1, x0, x5, x8, x10, x12, x13 => if x13 < (x0.length : Int) then (casketlaw10_DictNames.l2 k x0 x5 x8 x10 x12 x13 true 0) else (if x12 > 127 then (if x5 = true then (if (wrap64 (2 + (wrap64 (8 * x12)))) ≤ (x8.length : Int) then (if 2 ≤ (x8.length : Int) then (if 2 ≤ (x10.length : Int) then ((casketref01_Same.f k (x8.take 2) (x10.take 2)).bind fun t438 => (if t438 = true then (if 0 ≤ (wrap64 (2 + (wrap64 (8 * x12)))) then (if (wrap64 (2 + (wrap64 (8 * x12)))) ≤ (x10.length : Int) then ((casketref01_Same.f k (x8.drop ((wrap64 (2 + (wrap64 (8 * x12)))) : Int).toNat) (x10.drop ((wrap64 (2 + (wrap64 (8 * x12)))) : Int).toNat)).bind fun t447 => (some t447)) else (none)) else (none)) else (some false))) else (none)) else (none)) else (some false)) else (some false)) else (if x5 = true then (if (wrap64 (1 + (wrap64 (8 * x12)))) ≤ (x8.length : Int) then (if 1 ≤ (x8.length : Int) then (if 1 ≤ (x10.length : Int) then ((casketref01_Same.f k (x8.take 1) (x10.take 1)).bind fun t456 => (if t456 = true then (if 0 ≤ (wrap64 (1 + (wrap64 (8 * x12)))) then (if (wrap64 (1 + (wrap64 (8 * x12)))) ≤ (x10.length : Int) then ((casketref01_Same.f k (x8.drop ((wrap64 (1 + (wrap64 (8 * x12)))) : Int).toNat) (x10.drop ((wrap64 (1 + (wrap64 (8 * x12)))) : Int).toNat)).bind fun t465 => (some t465)) else (none)) else (none)) else (some false))) else (none)) else (none)) else (some false)) else (some false)))
def casketlaw10_DictNames.l2 : Nat → List Int → Bool → List Int → List Int → Int → Int → Bool → Int → Option (Bool)
  | 0, _, _, _, _, _, _, _, _ => none
  | k + 1, x0, x5, x8, x10, x12, x13, x14, x15 => if x15 < x13 then (if x14 = true then (if 0 ≤ x15 then (if x15 < (x0.length : Int) then (if 0 ≤ x13 then (if x13 < (x0.length : Int) then (casketlaw10_DictNames.l2 k x0 x5 x8 x10 x12 x13 ((rd x0 x15) != (rd x0 x13)) (wrap64 (x15 + 1))) else (none)) else (none)) else (none)) else (none)) else (casketlaw10_DictNames.l2 k x0 x5 x8 x10 x12 x13 false (wrap64 (x15 + 1)))) else (if x14 = true then (casketlaw10_DictNames.l1 k x0 x5 x8 x10 (wrap64 (x12 + 1)) (wrap64 (x13 + 1))) else (casketlaw10_DictNames.l1 k x0 x5 x8 x10 x12 (wrap64 (x13 + 1))))
end
def casketlaw10_DictNames.f (k : Nat) (l0 : List Int) (a1 : Int) : Option (Bool) := (casketlaw10_awake.f k).bind fun t415 => (if (l0.length : Int) > 300 then (some t415) else (casketlaw10_DictNames.l0 k l0 a1 t415 ([] : List Int) 0))
theorem casketlaw10_DictNames.mono_l : ∀ k, (∀ y0 y1 y2 y3 y4, LeO (casketlaw10_DictNames.l0 k y0 y1 y2 y3 y4) (casketlaw10_DictNames.l0 (k + 1) y0 y1 y2 y3 y4)) ∧ (∀ y0 y1 y2 y3 y4, LeO (casketlaw10_DictNames.j1 k y0 y1 y2 y3 y4) (casketlaw10_DictNames.j1 (k + 1) y0 y1 y2 y3 y4)) ∧ (∀ y0 y1 y2 y3 y4 y5, LeO (casketlaw10_DictNames.l1 k y0 y1 y2 y3 y4 y5) (casketlaw10_DictNames.l1 (k + 1) y0 y1 y2 y3 y4 y5)) ∧ (∀ y0 y1 y2 y3 y4 y5 y6 y7, LeO (casketlaw10_DictNames.l2 k y0 y1 y2 y3 y4 y5 y6 y7) (casketlaw10_DictNames.l2 (k + 1) y0 y1 y2 y3 y4 y5 y6 y7))
  | 0 => ⟨fun _ _ _ _ _ r h => by simp [casketlaw10_DictNames.l0] at h, fun _ _ _ _ _ r h => by simp [casketlaw10_DictNames.j1] at h, fun _ _ _ _ _ _ r h => by simp [casketlaw10_DictNames.l1] at h, fun _ _ _ _ _ _ _ _ r h => by simp [casketlaw10_DictNames.l2] at h⟩
  | k + 1 => by
    obtain ⟨ih0, ih1, ih2, ih3⟩ := casketlaw10_DictNames.mono_l k
    refine ⟨?_, ?_, ?_, ?_⟩
    · intro y0 y1 y2 y3 y4
      unfold casketlaw10_DictNames.l0
      repeat' first
      | (with_reducible exact ih0 _ _ _ _ _)
      | (with_reducible exact ih1 _ _ _ _ _)
      | (with_reducible exact ih2 _ _ _ _ _ _)
      | (with_reducible exact ih3 _ _ _ _ _ _ _ _)
      | (with_reducible exact casketlaw10_awake.mono _)
      | (with_reducible exact casketref01_Same.mono _ _ _)
      | (with_reducible exact LeO.refl _)
      | (with_reducible exact LeO.none _)
      | (with_reducible refine LeO.ite ?_ ?_)
      | (with_reducible refine LeO.bind ?_ (fun _ => ?_))
      | exact ih0 _ _ _ _ _
      | exact ih1 _ _ _ _ _
      | exact ih2 _ _ _ _ _ _
      | exact ih3 _ _ _ _ _ _ _ _
      | exact casketlaw10_awake.mono _
      | exact casketref01_Same.mono _ _ _
      | exact LeO.none _
      | refine LeO.ite ?_ ?_
      | refine LeO.bind ?_ (fun _ => ?_)
    · intro y0 y1 y2 y3 y4
      unfold casketlaw10_DictNames.j1
      repeat' first
      | (with_reducible exact ih0 _ _ _ _ _)
      | (with_reducible exact ih1 _ _ _ _ _)
      | (with_reducible exact ih2 _ _ _ _ _ _)
      | (with_reducible exact ih3 _ _ _ _ _ _ _ _)
      | (with_reducible exact casketlaw10_awake.mono _)
      | (with_reducible exact casketref01_Same.mono _ _ _)
      | (with_reducible exact LeO.refl _)
      | (with_reducible exact LeO.none _)
      | (with_reducible refine LeO.ite ?_ ?_)
      | (with_reducible refine LeO.bind ?_ (fun _ => ?_))
      | exact ih0 _ _ _ _ _
      | exact ih1 _ _ _ _ _
      | exact ih2 _ _ _ _ _ _
      | exact ih3 _ _ _ _ _ _ _ _
      | exact casketlaw10_awake.mono _
      | exact casketref01_Same.mono _ _ _
      | exact LeO.none _
      | refine LeO.ite ?_ ?_
      | refine LeO.bind ?_ (fun _ => ?_)
    · intro y0 y1 y2 y3 y4 y5
      unfold casketlaw10_DictNames.l1
      repeat' first
      | (with_reducible exact ih0 _ _ _ _ _)
      | (with_reducible exact ih1 _ _ _ _ _)
      | (with_reducible exact ih2 _ _ _ _ _ _)
      | (with_reducible exact ih3 _ _ _ _ _ _ _ _)
      | (with_reducible exact casketlaw10_awake.mono _)
      | (with_reducible exact casketref01_Same.mono _ _ _)
      | (with_reducible exact LeO.refl _)
      | (with_reducible exact LeO.none _)
      | (with_reducible refine LeO.ite ?_ ?_)
      | (with_reducible refine LeO.bind ?_ (fun _ => ?_))
      | exact ih0 _ _ _ _ _
      | exact ih1 _ _ _ _ _
      | exact ih2 _ _ _ _ _ _
      | exact ih3 _ _ _ _ _ _ _ _
      | exact casketlaw10_awake.mono _
      | exact casketref01_Same.mono _ _ _
      | exact LeO.none _
      | refine LeO.ite ?_ ?_
      | refine LeO.bind ?_ (fun _ => ?_)
    · intro y0 y1 y2 y3 y4 y5 y6 y7
      unfold casketlaw10_DictNames.l2
      repeat' first
      | (with_reducible exact ih0 _ _ _ _ _)
      | (with_reducible exact ih1 _ _ _ _ _)
      | (with_reducible exact ih2 _ _ _ _ _ _)
      | (with_reducible exact ih3 _ _ _ _ _ _ _ _)
      | (with_reducible exact casketlaw10_awake.mono _)
      | (with_reducible exact casketref01_Same.mono _ _ _)
      | (with_reducible exact LeO.refl _)
      | (with_reducible exact LeO.none _)
      | (with_reducible refine LeO.ite ?_ ?_)
      | (with_reducible refine LeO.bind ?_ (fun _ => ?_))
      | exact ih0 _ _ _ _ _
      | exact ih1 _ _ _ _ _
      | exact ih2 _ _ _ _ _ _
      | exact ih3 _ _ _ _ _ _ _ _
      | exact casketlaw10_awake.mono _
      | exact casketref01_Same.mono _ _ _
      | exact LeO.none _
      | refine LeO.ite ?_ ?_
      | refine LeO.bind ?_ (fun _ => ?_)
theorem casketlaw10_DictNames.mono : ∀ a0 a1 k, LeO (casketlaw10_DictNames.f k a0 a1) (casketlaw10_DictNames.f (k + 1) a0 a1) := by
  intro a0 a1 k
  obtain ⟨ih0, ih1, ih2, ih3⟩ := casketlaw10_DictNames.mono_l k
  unfold casketlaw10_DictNames.f
  repeat' first
      | (with_reducible exact ih0 _ _ _ _ _)
      | (with_reducible exact ih1 _ _ _ _ _)
      | (with_reducible exact ih2 _ _ _ _ _ _)
      | (with_reducible exact ih3 _ _ _ _ _ _ _ _)
      | (with_reducible exact casketlaw10_awake.mono _)
      | (with_reducible exact casketref01_Same.mono _ _ _)
      | (with_reducible exact LeO.refl _)
      | (with_reducible exact LeO.none _)
      | (with_reducible refine LeO.ite ?_ ?_)
      | (with_reducible refine LeO.bind ?_ (fun _ => ?_))
      | exact ih0 _ _ _ _ _
      | exact ih1 _ _ _ _ _
      | exact ih2 _ _ _ _ _ _
      | exact ih3 _ _ _ _ _ _ _ _
      | exact casketlaw10_awake.mono _
      | exact casketref01_Same.mono _ _ _
      | exact LeO.none _
      | refine LeO.ite ?_ ?_
      | refine LeO.bind ?_ (fun _ => ?_)
set_option maxHeartbeats 8000000 in
set_option maxRecDepth 100000 in
theorem casketlaw10_DictNames.calls (k : Nat) (A0 : Option Addr) (c0 : Nat) (l0 : List Int) (a1 : Int) (r : Bool) (w : World) (hr0 : Kd.C (Kd.int .u64) w A0 l0.length l0) (hc0 : l0.length ≤ c0) (h : casketlaw10_DictNames.f k l0 a1 = some r) :
    Calls Try.prog 7 #[.slice A0 l0.length c0, .int .u64 a1] w fun e w' => e = .returned (.bool r) ∧ Below w.heap.size w w' := by
  have HR0 := Aside0.mk hr0
  have HC0 := Aside0.mk hc0
  clear hr0 hc0
  have HB := Aside0.mk (Below.refl w.heap.size w)
  have H : ((casketlaw10_awake.f k).bind fun t415 => (if (l0.length : Int) > 300 then (some t415) else (casketlaw10_DictNames.l0 k l0 a1 t415 ([] : List Int) 0))) = some r := h
  clear h
  replace H := Option.bind_eq_some_iff.mp H
  obtain ⟨t415, A30, H⟩ := H
  replace H : (if (l0.length : Int) > 300 then (some t415) else (casketlaw10_DictNames.l0 k l0 a1 t415 ([] : List Int) 0)) = some r := H
  have A3 := Aside0.mk A30
  clear A30
  by_cases c4 : (l0.length : Int) > 300
  · rw [if_pos c4] at H
    have c4b0 : decide (300 < (l0.length : Int)) = true := decide_eq_true c4
    have c4b1 : decide (300 < l0.length) = true := decide_eq_true (by omega)
    clear c4
    obtain rfl := Option.some.inj H
    go_enter Try.func7, Try.ntmps7
    go_wp2_with (first | (go_at_call 8; (with_reducible refine (casketlaw10_awake.calls k  t415 _ A3.out).mono ?_); rintro e w5 ⟨rfl, hb⟩; have n0_ := Aside0.mk (below_step (by repeat (first | (with_reducible first | exact HB.out | apply below_alloc | apply pw_below_drewN | apply below_drew1) | exact HB.out)) hb); clear HB; have HB := n0_; clear n0_; (try clear hb); (try clear hb2); (try clear hk); (try clear hi)))
    repeat (go_quiet (first | (go_at_call 8; (with_reducible refine (casketlaw10_awake.calls k  t415 _ A3.out).mono ?_); rintro e w5 ⟨rfl, hb⟩; have n0_ := Aside0.mk (below_step (by repeat (first | (with_reducible first | exact HB.out | apply below_alloc | apply pw_below_drewN | apply below_drew1) | exact HB.out)) hb); clear HB; have HB := n0_; clear n0_; (try clear hb); (try clear hb2); (try clear hk); (try clear hi))); try go_wp2_with (first | (go_at_call 8; (with_reducible refine (casketlaw10_awake.calls k  t415 _ A3.out).mono ?_); rintro e w5 ⟨rfl, hb⟩; have n0_ := Aside0.mk (below_step (by repeat (first | (with_reducible first | exact HB.out | apply below_alloc | apply pw_below_drewN | apply below_drew1) | exact HB.out)) hb); clear HB; have HB := n0_; clear n0_; (try clear hb); (try clear hb2); (try clear hk); (try clear hi))))
    go_ret
    exact ⟨by first | rfl | (simp [errW_none, errW_some] <;> rfl) | (simp [*, errW_none, errW_some] <;> rfl), by repeat (first | (with_reducible first | exact HB.out | apply below_alloc | apply pw_below_drewN | apply below_drew1) | exact HB.out)⟩
  · rw [if_neg c4] at H
    have c4b0 : decide (300 < (l0.length : Int)) = false := decide_eq_false c4
    have c4b1 : decide (300 < l0.length) = false := decide_eq_false (by omega)
    clear c4
    have H' := Aside0.mk H
    clear H
    go_enter Try.func7, Try.ntmps7
    go_wp2_with (first | (go_at_call 8; (with_reducible refine (casketlaw10_awake.calls k  t415 _ A3.out).mono ?_); rintro e w6 ⟨rfl, hb⟩; have n0_ := Aside0.mk (below_step (by repeat (first | (with_reducible first | exact HB.out | apply below_alloc | apply pw_below_drewN | apply below_drew1) | exact HB.out)) hb); clear HB; have HB := n0_; clear n0_; (try clear hb); (try clear hb2); (try clear hk); (try clear hi)))
    repeat (go_quiet (first | (go_at_call 8; (with_reducible refine (casketlaw10_awake.calls k  t415 _ A3.out).mono ?_); rintro e w6 ⟨rfl, hb⟩; have n0_ := Aside0.mk (below_step (by repeat (first | (with_reducible first | exact HB.out | apply below_alloc | apply pw_below_drewN | apply below_drew1) | exact HB.out)) hb); clear HB; have HB := n0_; clear n0_; (try clear hb); (try clear hb2); (try clear hk); (try clear hi))); try go_wp2_with (first | (go_at_call 8; (with_reducible refine (casketlaw10_awake.calls k  t415 _ A3.out).mono ?_); rintro e w6 ⟨rfl, hb⟩; have n0_ := Aside0.mk (below_step (by repeat (first | (with_reducible first | exact HB.out | apply below_alloc | apply pw_below_drewN | apply below_drew1) | exact HB.out)) hb); clear HB; have HB := n0_; clear n0_; (try clear hb); (try clear hb2); (try clear hk); (try clear hi))))
    go_loopg [6, 7] k (fun kq v6 v7 w' => ∃ (x6_1 : List Int) (x7_1 : Int), v7 = .int .i64 x7_1 ∧ Aside0 (casketlaw10_DictNames.l0 kq l0 a1 t415 x6_1 x7_1 = some r) ∧ Aside0 (kq ≤ k) ∧ Aside0 (Kd.R (Kd.int .u64) 35 w' w.heap.size (fun _ => True) v6 x6_1) ∧ Aside0 (Below w.heap.size w w'))
    case atStart => exact ⟨(([] : List Int)), (0), (by first | rfl | (simp; done) | (simp [*]; done)), H', ⟨Nat.le_refl _⟩, ⟨by first | exact Kd.R_nil _ _ _ _ _ | exact Kd.N_nil _ _ _ _ _ | exact Kd.V_nil _ _ _ _ _ | exact Kd.Q_nil _ _ _ _ _ | exact Kd.S_nil _ _ _ _ _⟩, ⟨by repeat (first | (with_reducible first | exact HB.out | apply below_alloc | apply pw_below_drewN | apply below_drew1) | exact HB.out)⟩⟩
    case round =>
      clear H'
      try clear p2
      try clear c4
      try clear c4b0
      try clear c4b1
      obtain ⟨x6_1, x7_1, rfl, HA, HK1, HO_6, HB⟩ := hrel
      cases gk with
      | zero => exact absurd HA.out (by simp [casketlaw10_DictNames.l0])
      | succ k1 =>
        have H := HA.out
        clear HA
        simp only [casketlaw10_DictNames.l0] at H
        by_cases c7 : x7_1 < (l0.length : Int)
        · rw [if_pos c7] at H
          have c7b0 : decide (x7_1 < (l0.length : Int)) = true := decide_eq_true c7
          clear c7
          by_cases c8 : 0 ≤ x7_1
          · rw [if_pos c8] at H
            have c8b0 : decide (0 ≤ x7_1) = true := decide_eq_true c8
            clear c8
            by_cases c9 : x6_1.length < 17592186044416
            · rw [if_pos c9] at H
              have LMc9 := Aside0.mk c9
              clear c9
              obtain ⟨y417, hy417⟩ : ∃ y_ : List Int, y_ = (x6_1 ++ [Go.bits .xor .u64 (rd l0 x7_1) a1]) := ⟨_, rfl⟩
              replace H : (casketlaw10_DictNames.l0 k1 l0 a1 t415 y417 (wrap64 (x7_1 + 1))) = some r := by first | (rw [hy417]; with_reducible exact H) | (have H2_ := (Option.bind_some _ _).symm.trans H; rw [hy417]; with_reducible exact H2_) | (have H2_ := (Option.bind_some _ _).symm.trans H; with_reducible exact H2_) | with_reducible exact H | (rw [hy417]; exact H) | exact H
              have Ny417 := Aside0.mk hy417
              clear hy417
              have H' := Aside0.mk H
              clear H
              have p416 : 0 ≤ (x7_1 : Int) := of_decide_eq_true (by first | (with_reducible assumption) | assumption)
              have q416 : x7_1 < (l0.length : Int) := of_decide_eq_true (by first | (with_reducible assumption) | assumption)
              obtain ⟨ad416, e416, hx416_0⟩ := Kd.at_int HR0.out x7_1 p416 q416
              cases e416
              replace hx416_0 := (HB.out.cell (World.block_lt_of_cell? w _ hx416_0)).trans hx416_0
              replace p416 := eq_true p416
              replace q416 := eq_true q416
              go_wp2_with (first | ((with_reducible refine gate_builtin (b := .append) (xs := #[.tmp 29, .tmp 36]) rfl ?_); (try (refine gate_guard (by rfl) ?_; dsimp only)); at_builtin; refine Kd.R_append (Kd.int .u64) (w0 := w) w.heap.size rfl (.tmp 29) (.tmp 36) 22 35 (.int .u64 0) 8 rfl Try.underlying22 info35 rfl (by decide) (by omega) u6 x6_1 (Go.bits .xor .u64 (rd l0 x7_1) a1) [.int .u64 (Go.bits .xor .u64 (rd l0 x7_1) a1)] (fun _ => True) (fun _ => False) rfl rfl ?aP (fun _ hk => hk.elim) ?aF ?aO ?aB ?aS ?aL ?_; (case aP => exact rfl); (case aB => exact (by repeat (first | (with_reducible first | exact HB.out | apply below_alloc | apply pw_below_drewN | apply below_drew1) | exact HB.out))); (case aF => exact (fun _ _ => trivial)); (case aO => exact (by (with_reducible repeat (first | apply Kd.R_alloc | apply Kd.R_drewN | apply Kd.R_drew)); exact HO_6.out)); (case aS => exact (below_size (by repeat (first | (with_reducible first | exact HB.out | apply below_alloc | apply pw_below_drewN | apply below_drew1) | exact HB.out)))); (case aL => have := LMc9.out; omega); intro v418 w10 ho hb hg hat; rw [← Ny417.out] at ho; have n0_ := Aside0.mk (hb); have n1_ := Aside0.mk (ho); clear HB; clear HO_6; have HB := n0_; have HO419 := n1_; clear n0_ n1_; clear ho hb hg hat))
              repeat (go_quiet (first | ((with_reducible refine gate_builtin (b := .append) (xs := #[.tmp 29, .tmp 36]) rfl ?_); (try (refine gate_guard (by rfl) ?_; dsimp only)); at_builtin; refine Kd.R_append (Kd.int .u64) (w0 := w) w.heap.size rfl (.tmp 29) (.tmp 36) 22 35 (.int .u64 0) 8 rfl Try.underlying22 info35 rfl (by decide) (by omega) u6 x6_1 (Go.bits .xor .u64 (rd l0 x7_1) a1) [.int .u64 (Go.bits .xor .u64 (rd l0 x7_1) a1)] (fun _ => True) (fun _ => False) rfl rfl ?aP (fun _ hk => hk.elim) ?aF ?aO ?aB ?aS ?aL ?_; (case aP => exact rfl); (case aB => exact (by repeat (first | (with_reducible first | exact HB.out | apply below_alloc | apply pw_below_drewN | apply below_drew1) | exact HB.out))); (case aF => exact (fun _ _ => trivial)); (case aO => exact (by (with_reducible repeat (first | apply Kd.R_alloc | apply Kd.R_drewN | apply Kd.R_drew)); exact HO_6.out)); (case aS => exact (below_size (by repeat (first | (with_reducible first | exact HB.out | apply below_alloc | apply pw_below_drewN | apply below_drew1) | exact HB.out)))); (case aL => have := LMc9.out; omega); intro v418 w10 ho hb hg hat; rw [← Ny417.out] at ho; have n0_ := Aside0.mk (hb); have n1_ := Aside0.mk (ho); clear HB; clear HO_6; have HB := n0_; have HO419 := n1_; clear n0_ n1_; clear ho hb hg hat)); try go_wp2_with (first | ((with_reducible refine gate_builtin (b := .append) (xs := #[.tmp 29, .tmp 36]) rfl ?_); (try (refine gate_guard (by rfl) ?_; dsimp only)); at_builtin; refine Kd.R_append (Kd.int .u64) (w0 := w) w.heap.size rfl (.tmp 29) (.tmp 36) 22 35 (.int .u64 0) 8 rfl Try.underlying22 info35 rfl (by decide) (by omega) u6 x6_1 (Go.bits .xor .u64 (rd l0 x7_1) a1) [.int .u64 (Go.bits .xor .u64 (rd l0 x7_1) a1)] (fun _ => True) (fun _ => False) rfl rfl ?aP (fun _ hk => hk.elim) ?aF ?aO ?aB ?aS ?aL ?_; (case aP => exact rfl); (case aB => exact (by repeat (first | (with_reducible first | exact HB.out | apply below_alloc | apply pw_below_drewN | apply below_drew1) | exact HB.out))); (case aF => exact (fun _ _ => trivial)); (case aO => exact (by (with_reducible repeat (first | apply Kd.R_alloc | apply Kd.R_drewN | apply Kd.R_drew)); exact HO_6.out)); (case aS => exact (below_size (by repeat (first | (with_reducible first | exact HB.out | apply below_alloc | apply pw_below_drewN | apply below_drew1) | exact HB.out)))); (case aL => have := LMc9.out; omega); intro v418 w10 ho hb hg hat; rw [← Ny417.out] at ho; have n0_ := Aside0.mk (hb); have n1_ := Aside0.mk (ho); clear HB; clear HO_6; have HB := n0_; have HO419 := n1_; clear n0_ n1_; clear ho hb hg hat)))
              go_roundg k1
              case measure => have := HK1.out; omega
              case rel => exact ⟨(y417), (wrap64 (x7_1 + 1)), (by first | rfl | (simp; done) | (simp [*]; done)), H', ⟨by have := HK1.out; omega⟩, ⟨by (with_reducible repeat (first | apply Kd.R_alloc | apply Kd.R_drewN | apply Kd.R_drew)); exact HO419.out⟩, ⟨by repeat (first | (with_reducible first | exact HB.out | apply below_alloc | apply pw_below_drewN | apply below_drew1) | exact HB.out)⟩⟩
            · rw [if_neg c9] at H
              exact absurd H (by simp)
          · rw [if_neg c8] at H
            exact absurd H (by simp)
        · rw [if_neg c7] at H
          have c7b0 : decide (x7_1 < (l0.length : Int)) = false := decide_eq_false c7
          clear c7
          replace H := Option.bind_eq_some_iff.mp H
          obtain ⟨⟨t420, t421⟩, A110, H⟩ := H
          replace H : ((dict_Encode.f x6_1).bind fun bt424 => (if t421 = 0 then (if bt424.2 = 0 then (if (t420.length : Int) = (bt424.1.length : Int) then (casketlaw10_DictNames.j1 k1 l0 t415 t420 bt424.1 ((t420.length : Int) == 0)) else (casketlaw10_DictNames.j1 k1 l0 t415 t420 bt424.1 true)) else (casketlaw10_DictNames.j1 k1 l0 t415 t420 bt424.1 true)) else (casketlaw10_DictNames.j1 k1 l0 t415 t420 bt424.1 true))) = some r := H
          have A11 := Aside0.mk A110
          clear A110
          replace H := Option.bind_eq_some_iff.mp H
          obtain ⟨⟨t424, t425⟩, A120, H⟩ := H
          replace H : (if t421 = 0 then (if t425 = 0 then (if (t420.length : Int) = (t424.length : Int) then (casketlaw10_DictNames.j1 k1 l0 t415 t420 t424 ((t420.length : Int) == 0)) else (casketlaw10_DictNames.j1 k1 l0 t415 t420 t424 true)) else (casketlaw10_DictNames.j1 k1 l0 t415 t420 t424 true)) else (casketlaw10_DictNames.j1 k1 l0 t415 t420 t424 true)) = some r := H
          have A12 := Aside0.mk A120
          clear A120
          have HC13 := Aside0.mk H
          clear H
          go_upto_region 11 with (first | (go_at_call 9; (with_reducible refine (dict_Encode.calls _ _ l0 t420 t421 _ ?side1 ?side2 A11.out).mono ?_); (case side1 => repeat (first | exact (Kd.C_below HR0.out HB.out) | (with_reducible refine Kd.C_alloc ?_ _) | (with_reducible refine Kd.C_drewN ?_ _) | (with_reducible refine Kd.C_drew ?_))); (case side2 => exact HC0.out); rintro e w14 ⟨v422, rfl, ho0, hb⟩; have n0_ := Aside0.mk (Kd.R_below (by (with_reducible repeat (first | apply Kd.R_alloc | apply Kd.R_drewN | apply Kd.R_drew)); exact HO_6.out) hb); have n1_ := Aside0.mk (Kd.R_lower ho0 (below_size (by repeat (first | (with_reducible first | exact HB.out | apply below_alloc | apply pw_below_drewN | apply below_drew1) | exact HB.out)))); have n2_ := Aside0.mk (below_step (by repeat (first | (with_reducible first | exact HB.out | apply below_alloc | apply pw_below_drewN | apply below_drew1) | exact HB.out)) hb); clear HO_6; clear HB; have HO_6 := n0_; have HO423 := n1_; have HB := n2_; clear n0_ n1_ n2_; (try clear hb); (try clear hb2); (try clear hk); (try clear hi); (try clear ho0); obtain ⟨Ao15, co15, eo15⟩ := Kd.R_slice HO_6.out; subst eo15) | (go_at_call 9; (with_reducible refine (dict_Encode.calls _ _ x6_1 t424 t425 _ ?side1 ?side2 A12.out).mono ?_); (case side1 => repeat (first | exact (Kd.R_reads' HO_6.out).2.2 | (with_reducible refine Kd.C_alloc ?_ _) | (with_reducible refine Kd.C_drewN ?_ _) | (with_reducible refine Kd.C_drew ?_))); (case side2 => exact (Kd.R_reads' HO_6.out).2.1); rintro e w16 ⟨v426, rfl, ho0, hb⟩; have n0_ := Aside0.mk (Kd.R_below (by (with_reducible repeat (first | apply Kd.R_alloc | apply Kd.R_drewN | apply Kd.R_drew)); exact HO_6.out) hb); have n1_ := Aside0.mk (Kd.R_elder' (by (with_reducible repeat (first | apply Kd.R_alloc | apply Kd.R_drewN | apply Kd.R_drew)); exact HO423.out) (Kd.R_base ho0) hb); have n2_ := Aside0.mk (Kd.R_lower (Kd.R_new' ho0 (Kd.R_lt (by (with_reducible repeat (first | apply Kd.R_alloc | apply Kd.R_drewN | apply Kd.R_drew)); exact HO423.out))) (below_size (by repeat (first | (with_reducible first | exact HB.out | apply below_alloc | apply pw_below_drewN | apply below_drew1) | exact HB.out)))); have n3_ := Aside0.mk (below_step (by repeat (first | (with_reducible first | exact HB.out | apply below_alloc | apply pw_below_drewN | apply below_drew1) | exact HB.out)) hb); clear HO_6; clear HO423; clear HB; have HO_6 := n0_; have HO423 := n1_; have HO427 := n2_; have HB := n3_; clear n0_ n1_ n2_ n3_; (try clear hb); (try clear hb2); (try clear hk); (try clear hi); (try clear ho0)))
          repeat (go_quiet (first | (go_at_call 9; (with_reducible refine (dict_Encode.calls _ _ l0 t420 t421 _ ?side1 ?side2 A11.out).mono ?_); (case side1 => repeat (first | exact (Kd.C_below HR0.out HB.out) | (with_reducible refine Kd.C_alloc ?_ _) | (with_reducible refine Kd.C_drewN ?_ _) | (with_reducible refine Kd.C_drew ?_))); (case side2 => exact HC0.out); rintro e w14 ⟨v422, rfl, ho0, hb⟩; have n0_ := Aside0.mk (Kd.R_below (by (with_reducible repeat (first | apply Kd.R_alloc | apply Kd.R_drewN | apply Kd.R_drew)); exact HO_6.out) hb); have n1_ := Aside0.mk (Kd.R_lower ho0 (below_size (by repeat (first | (with_reducible first | exact HB.out | apply below_alloc | apply pw_below_drewN | apply below_drew1) | exact HB.out)))); have n2_ := Aside0.mk (below_step (by repeat (first | (with_reducible first | exact HB.out | apply below_alloc | apply pw_below_drewN | apply below_drew1) | exact HB.out)) hb); clear HO_6; clear HB; have HO_6 := n0_; have HO423 := n1_; have HB := n2_; clear n0_ n1_ n2_; (try clear hb); (try clear hb2); (try clear hk); (try clear hi); (try clear ho0); obtain ⟨Ao15, co15, eo15⟩ := Kd.R_slice HO_6.out; subst eo15) | (go_at_call 9; (with_reducible refine (dict_Encode.calls _ _ x6_1 t424 t425 _ ?side1 ?side2 A12.out).mono ?_); (case side1 => repeat (first | exact (Kd.R_reads' HO_6.out).2.2 | (with_reducible refine Kd.C_alloc ?_ _) | (with_reducible refine Kd.C_drewN ?_ _) | (with_reducible refine Kd.C_drew ?_))); (case side2 => exact (Kd.R_reads' HO_6.out).2.1); rintro e w16 ⟨v426, rfl, ho0, hb⟩; have n0_ := Aside0.mk (Kd.R_below (by (with_reducible repeat (first | apply Kd.R_alloc | apply Kd.R_drewN | apply Kd.R_drew)); exact HO_6.out) hb); have n1_ := Aside0.mk (Kd.R_elder' (by (with_reducible repeat (first | apply Kd.R_alloc | apply Kd.R_drewN | apply Kd.R_drew)); exact HO423.out) (Kd.R_base ho0) hb); have n2_ := Aside0.mk (Kd.R_lower (Kd.R_new' ho0 (Kd.R_lt (by (with_reducible repeat (first | apply Kd.R_alloc | apply Kd.R_drewN | apply Kd.R_drew)); exact HO423.out))) (below_size (by repeat (first | (with_reducible first | exact HB.out | apply below_alloc | apply pw_below_drewN | apply below_drew1) | exact HB.out)))); have n3_ := Aside0.mk (below_step (by repeat (first | (with_reducible first | exact HB.out | apply below_alloc | apply pw_below_drewN | apply below_drew1) | exact HB.out)) hb); clear HO_6; clear HO423; clear HB; have HO_6 := n0_; have HO423 := n1_; have HO427 := n2_; have HB := n3_; clear n0_ n1_ n2_ n3_; (try clear hb); (try clear hb2); (try clear hk); (try clear hi); (try clear ho0))); go_upto_region 11 with (first | (go_at_call 9; (with_reducible refine (dict_Encode.calls _ _ l0 t420 t421 _ ?side1 ?side2 A11.out).mono ?_); (case side1 => repeat (first | exact (Kd.C_below HR0.out HB.out) | (with_reducible refine Kd.C_alloc ?_ _) | (with_reducible refine Kd.C_drewN ?_ _) | (with_reducible refine Kd.C_drew ?_))); (case side2 => exact HC0.out); rintro e w14 ⟨v422, rfl, ho0, hb⟩; have n0_ := Aside0.mk (Kd.R_below (by (with_reducible repeat (first | apply Kd.R_alloc | apply Kd.R_drewN | apply Kd.R_drew)); exact HO_6.out) hb); have n1_ := Aside0.mk (Kd.R_lower ho0 (below_size (by repeat (first | (with_reducible first | exact HB.out | apply below_alloc | apply pw_below_drewN | apply below_drew1) | exact HB.out)))); have n2_ := Aside0.mk (below_step (by repeat (first | (with_reducible first | exact HB.out | apply below_alloc | apply pw_below_drewN | apply below_drew1) | exact HB.out)) hb); clear HO_6; clear HB; have HO_6 := n0_; have HO423 := n1_; have HB := n2_; clear n0_ n1_ n2_; (try clear hb); (try clear hb2); (try clear hk); (try clear hi); (try clear ho0); obtain ⟨Ao15, co15, eo15⟩ := Kd.R_slice HO_6.out; subst eo15) | (go_at_call 9; (with_reducible refine (dict_Encode.calls _ _ x6_1 t424 t425 _ ?side1 ?side2 A12.out).mono ?_); (case side1 => repeat (first | exact (Kd.R_reads' HO_6.out).2.2 | (with_reducible refine Kd.C_alloc ?_ _) | (with_reducible refine Kd.C_drewN ?_ _) | (with_reducible refine Kd.C_drew ?_))); (case side2 => exact (Kd.R_reads' HO_6.out).2.1); rintro e w16 ⟨v426, rfl, ho0, hb⟩; have n0_ := Aside0.mk (Kd.R_below (by (with_reducible repeat (first | apply Kd.R_alloc | apply Kd.R_drewN | apply Kd.R_drew)); exact HO_6.out) hb); have n1_ := Aside0.mk (Kd.R_elder' (by (with_reducible repeat (first | apply Kd.R_alloc | apply Kd.R_drewN | apply Kd.R_drew)); exact HO423.out) (Kd.R_base ho0) hb); have n2_ := Aside0.mk (Kd.R_lower (Kd.R_new' ho0 (Kd.R_lt (by (with_reducible repeat (first | apply Kd.R_alloc | apply Kd.R_drewN | apply Kd.R_drew)); exact HO423.out))) (below_size (by repeat (first | (with_reducible first | exact HB.out | apply below_alloc | apply pw_below_drewN | apply below_drew1) | exact HB.out)))); have n3_ := Aside0.mk (below_step (by repeat (first | (with_reducible first | exact HB.out | apply below_alloc | apply pw_below_drewN | apply below_drew1) | exact HB.out)) hb); clear HO_6; clear HO423; clear HB; have HO_6 := n0_; have HO423 := n1_; have HO427 := n2_; have HB := n3_; clear n0_ n1_ n2_ n3_; (try clear hb); (try clear hb2); (try clear hk); (try clear hi); (try clear ho0))))
          (try simp only [Act.put, List.setIfInBounds_toArray, List.set_cons_zero, List.set_cons_succ])
          go_cut [65] (fun v65 wc => ∃ (kq : Nat) (x65_12 : Bool), v65 = .bool x65_12 ∧ Aside0 (casketlaw10_DictNames.j1 kq l0 t415 t420 t424 x65_12 = some r) ∧ Aside0 (kq ≤ k1) ∧ Aside0 (Kd.R (Kd.int .u8) 5 wc w.heap.size (fun k_ => some k_ ≠ (v426 : Value).ownBlock) v422 t420) ∧ Aside0 (Kd.R (Kd.int .u8) 5 wc w.heap.size (fun k_ => some k_ ≠ (v422 : Value).ownBlock) v426 t424) ∧ Aside0 (Below w.heap.size w wc))
          case first =>
            have H := HC13.out
            clear HC13
            by_cases c17 : t421 = 0
            · rw [if_pos c17] at H
              have c17b0 : (t421 == 0) = true := beq_iff_eq.mpr c17
              have c17b1 : (t421 != 0) = false := bne_eq_false_iff_eq.mpr c17
              clear c17
              (first | rw [c17b0] | (simp only [i64_w, i32_w]; rw [c17b0]) | skip)
              by_cases c18 : t425 = 0
              · rw [if_pos c18] at H
                have c18b0 : (t425 == 0) = true := beq_iff_eq.mpr c18
                have c18b1 : (t425 != 0) = false := bne_eq_false_iff_eq.mpr c18
                clear c18
                by_cases c19 : (t420.length : Int) = (t424.length : Int)
                · rw [if_pos c19] at H
                  have c19b0 : ((t420.length : Int) == (t424.length : Int)) = true := beq_iff_eq.mpr c19
                  have c19b1 : ((t420.length : Int) != (t424.length : Int)) = false := bne_eq_false_iff_eq.mpr c19
                  have c19b2 : (t420.length == t424.length) = true := by first | simpa using c19 | (simp at c19 ⊢; omega)
                  clear c19
                  have H' := Aside0.mk H
                  clear H
                  obtain ⟨Ao20, co20, eo20⟩ := Kd.R_slice HO423.out
                  subst eo20
                  obtain ⟨Ao21, co21, eo21⟩ := Kd.R_slice HO427.out
                  subst eo21
                  go_wp2
                  repeat (go_quiet (fail); try go_wp2)
                  go_meet
                  case rel => exact ⟨_, (((t420.length : Int) == 0)), (by first | rfl | (simp; done) | (simp [*]; done)), H', ⟨by have := HK1.out; first | omega | exact Nat.le_refl _⟩, ⟨by (with_reducible repeat (first | apply Kd.R_alloc | apply Kd.R_drewN | apply Kd.R_drew)); exact Kd.R_mono HO423.out (fun _ hk => hk.2)⟩, ⟨by (with_reducible repeat (first | apply Kd.R_alloc | apply Kd.R_drewN | apply Kd.R_drew)); exact Kd.R_mono HO427.out (fun _ hk => hk.2)⟩, ⟨by repeat (first | (with_reducible first | exact HB.out | apply below_alloc | apply pw_below_drewN | apply below_drew1) | exact HB.out)⟩⟩
                · rw [if_neg c19] at H
                  have c19b0 : ((t420.length : Int) == (t424.length : Int)) = false := beq_eq_false_iff_ne.mpr c19
                  have c19b1 : ((t420.length : Int) != (t424.length : Int)) = true := bne_iff_ne.mpr c19
                  have c19b2 : (t420.length == t424.length) = false := by first | simpa using c19 | (simp at c19 ⊢; omega)
                  have H' := Aside0.mk H
                  clear H
                  obtain ⟨Ao22, co22, eo22⟩ := Kd.R_slice HO423.out
                  subst eo22
                  obtain ⟨Ao23, co23, eo23⟩ := Kd.R_slice HO427.out
                  subst eo23
                  go_wp2
                  repeat (go_quiet (fail); try go_wp2)
                  go_meet
                  case rel => exact ⟨_, (true), (by first | rfl | (simp; done) | (simp [*]; done)), H', ⟨by have := HK1.out; first | omega | exact Nat.le_refl _⟩, ⟨by (with_reducible repeat (first | apply Kd.R_alloc | apply Kd.R_drewN | apply Kd.R_drew)); exact Kd.R_mono HO423.out (fun _ hk => hk.2)⟩, ⟨by (with_reducible repeat (first | apply Kd.R_alloc | apply Kd.R_drewN | apply Kd.R_drew)); exact Kd.R_mono HO427.out (fun _ hk => hk.2)⟩, ⟨by repeat (first | (with_reducible first | exact HB.out | apply below_alloc | apply pw_below_drewN | apply below_drew1) | exact HB.out)⟩⟩
              · rw [if_neg c18] at H
                have c18b0 : (t425 == 0) = false := beq_eq_false_iff_ne.mpr c18
                have c18b1 : (t425 != 0) = true := bne_iff_ne.mpr c18
                have H' := Aside0.mk H
                clear H
                go_wp2
                repeat (go_quiet (fail); try go_wp2)
                go_meet
                case rel => exact ⟨_, (true), (by first | rfl | (simp; done) | (simp [*]; done)), H', ⟨by have := HK1.out; first | omega | exact Nat.le_refl _⟩, ⟨by (with_reducible repeat (first | apply Kd.R_alloc | apply Kd.R_drewN | apply Kd.R_drew)); exact Kd.R_mono HO423.out (fun _ hk => hk.2)⟩, ⟨by (with_reducible repeat (first | apply Kd.R_alloc | apply Kd.R_drewN | apply Kd.R_drew)); exact Kd.R_mono HO427.out (fun _ hk => hk.2)⟩, ⟨by repeat (first | (with_reducible first | exact HB.out | apply below_alloc | apply pw_below_drewN | apply below_drew1) | exact HB.out)⟩⟩
            · rw [if_neg c17] at H
              have c17b0 : (t421 == 0) = false := beq_eq_false_iff_ne.mpr c17
              have c17b1 : (t421 != 0) = true := bne_iff_ne.mpr c17
              (first | rw [c17b0] | (simp only [i64_w, i32_w]; rw [c17b0]) | skip)
              have H' := Aside0.mk H
              clear H
              go_wp2
              repeat (go_quiet (fail); try go_wp2)
              go_meet
              case rel => exact ⟨_, (true), (by first | rfl | (simp; done) | (simp [*]; done)), H', ⟨by have := HK1.out; first | omega | exact Nat.le_refl _⟩, ⟨by (with_reducible repeat (first | apply Kd.R_alloc | apply Kd.R_drewN | apply Kd.R_drew)); exact Kd.R_mono HO423.out (fun _ hk => hk.2)⟩, ⟨by (with_reducible repeat (first | apply Kd.R_alloc | apply Kd.R_drewN | apply Kd.R_drew)); exact Kd.R_mono HO427.out (fun _ hk => hk.2)⟩, ⟨by repeat (first | (with_reducible first | exact HB.out | apply below_alloc | apply pw_below_drewN | apply below_drew1) | exact HB.out)⟩⟩
          case rest =>
            clear HC13
            try clear c1
            try clear p2
            try clear c4
            try clear c4b0
            try clear c4b1
            try clear p4
            try clear q4
            try clear hx4
            try clear p6
            try clear c7
            try clear c7b0
            try clear c8
            try clear c8b0
            try clear c9
            try clear c17
            try clear c17b0
            try clear c17b1
            try clear c18
            try clear c18b0
            try clear c18b1
            try clear c19
            try clear c19b0
            try clear c19b1
            try clear c19b2
            try clear hx416_0
            try clear p2
            try clear p416
            try clear q416
            obtain ⟨kq, x65_12, rfl, HA, HJ12, HO_8, HO_10, HB⟩ := hcut
            cases kq with
            | zero => exact absurd HA.out (by simp [casketlaw10_DictNames.j1])
            | succ kj12 =>
              have H := HA.out
              clear HA
              simp only [casketlaw10_DictNames.j1] at H
              by_cases c24 : x65_12 = true
              · subst c24
                have H1 : (some false) = some r := by rw [if_pos rfl] at H; exact H
                clear H
                have H := H1
                clear H1
                obtain rfl := Option.some.inj H
                go_wp2
                repeat (go_quiet (fail); try go_wp2)
                go_ret
                exact ⟨by first | rfl | (simp [errW_none, errW_some] <;> rfl) | (simp [*, errW_none, errW_some] <;> rfl), by repeat (first | (with_reducible first | exact HB.out | apply below_alloc | apply pw_below_drewN | apply below_drew1) | exact HB.out)⟩
              · replace c24 := Bool.eq_false_iff.mpr c24
                subst c24
                have H1 : (casketlaw10_DictNames.l1 kj12 l0 t415 t420 t424 0 0) = some r := by rw [if_neg (show ¬ (false = true) by decide)] at H; exact H
                clear H
                have H := H1
                clear H1
                have H' := Aside0.mk H
                clear H
                go_wp2
                repeat (go_quiet (fail); try go_wp2)
                go_loopg [12, 13] kj12 (fun kq v12 v13 w' => ∃ (x12_3 : Int) (x13_3 : Int), v12 = .int .i64 x12_3 ∧ v13 = .int .i64 x13_3 ∧ Aside0 (casketlaw10_DictNames.l1 kq l0 t415 t420 t424 x12_3 x13_3 = some r) ∧ Aside0 (kq ≤ kj12) ∧ Aside0 (Kd.R (Kd.int .u8) 5 w' w.heap.size (fun k_ => some k_ ≠ (v426 : Value).ownBlock) v422 t420) ∧ Aside0 (Kd.R (Kd.int .u8) 5 w' w.heap.size (fun k_ => some k_ ≠ (v422 : Value).ownBlock) v426 t424) ∧ Aside0 (Below w.heap.size w w'))
                case atStart => exact ⟨(0), (0), (by first | rfl | (simp; done) | (simp [*]; done)), (by first | rfl | (simp; done) | (simp [*]; done)), H', ⟨Nat.le_refl _⟩, ⟨by (with_reducible repeat (first | apply Kd.R_alloc | apply Kd.R_drewN | apply Kd.R_drew)); exact HO_8.out⟩, ⟨by (with_reducible repeat (first | apply Kd.R_alloc | apply Kd.R_drewN | apply Kd.R_drew)); exact HO_10.out⟩, ⟨by repeat (first | (with_reducible first | exact HB.out | apply below_alloc | apply pw_below_drewN | apply below_drew1) | exact HB.out)⟩⟩
                case round =>
                  clear H'
                  try clear c1
                  try clear c2
                  try clear p2
                  try clear c4
                  try clear c4b0
                  try clear c4b1
                  try clear p4
                  try clear q4
                  try clear hx4
                  try clear p6
                  try clear c7
                  try clear c7b0
                  try clear c8
                  try clear c8b0
                  try clear c9
                  try clear c17
                  try clear c17b0
                  try clear c17b1
                  try clear c18
                  try clear c18b0
                  try clear c18b1
                  try clear c19
                  try clear c19b0
                  try clear c19b1
                  try clear c19b2
                  try clear c24
                  try clear hx416_0
                  try clear p2
                  try clear p4
                  try clear p416
                  try clear p6
                  try clear q4
                  try clear q416
                  obtain ⟨x12_3, x13_3, rfl, rfl, HA, HK3, HO_8, HO_10, HB⟩ := hrel
                  cases gk with
                  | zero => exact absurd HA.out (by simp [casketlaw10_DictNames.l1])
                  | succ k3 =>
                    have H := HA.out
                    clear HA
                    simp only [casketlaw10_DictNames.l1] at H
                    by_cases c25 : x13_3 < (l0.length : Int)
                    · rw [if_pos c25] at H
                      have c25b0 : decide (x13_3 < (l0.length : Int)) = true := decide_eq_true c25
                      clear c25
                      have H' := Aside0.mk H
                      clear H
                      go_wp2
                      repeat (go_quiet (fail); try go_wp2)
                      go_loopg [14, 15] k3 (fun kq v14 v15 w' => ∃ (x14_4 : Bool) (x15_4 : Int), v14 = .bool x14_4 ∧ v15 = .int .i64 x15_4 ∧ Aside0 (casketlaw10_DictNames.l2 kq l0 t415 t420 t424 x12_3 x13_3 x14_4 x15_4 = some r) ∧ Aside0 (kq ≤ k3) ∧ Aside0 (Kd.R (Kd.int .u8) 5 w' w.heap.size (fun k_ => some k_ ≠ (v426 : Value).ownBlock) v422 t420) ∧ Aside0 (Kd.R (Kd.int .u8) 5 w' w.heap.size (fun k_ => some k_ ≠ (v422 : Value).ownBlock) v426 t424) ∧ Aside0 (Below w.heap.size w w'))
                      case atStart => exact ⟨(true), (0), (by first | rfl | (simp; done) | (simp [*]; done)), (by first | rfl | (simp; done) | (simp [*]; done)), H', ⟨Nat.le_refl _⟩, ⟨by (with_reducible repeat (first | apply Kd.R_alloc | apply Kd.R_drewN | apply Kd.R_drew)); exact HO_8.out⟩, ⟨by (with_reducible repeat (first | apply Kd.R_alloc | apply Kd.R_drewN | apply Kd.R_drew)); exact HO_10.out⟩, ⟨by repeat (first | (with_reducible first | exact HB.out | apply below_alloc | apply pw_below_drewN | apply below_drew1) | exact HB.out)⟩⟩
                      case round =>
                        clear H'
                        try clear c1
                        try clear c2
                        try clear p2
                        try clear c4
                        try clear c4b0
                        try clear c4b1
                        try clear p4
                        try clear q4
                        try clear hx4
                        try clear p6
                        try clear c7
                        try clear c7b0
                        try clear c8
                        try clear c8b0
                        try clear c9
                        try clear c17
                        try clear c17b0
                        try clear c17b1
                        try clear c18
                        try clear c18b0
                        try clear c18b1
                        try clear c19
                        try clear c19b0
                        try clear c19b1
                        try clear c19b2
                        try clear c24
                        try clear c25
                        try clear c25b0
                        try clear hx416_0
                        try clear p2
                        try clear p4
                        try clear p416
                        try clear p6
                        try clear q4
                        try clear q416
                        obtain ⟨x14_4, x15_4, rfl, rfl, HA, HK4, HO_8, HO_10, HB⟩ := hrel
                        cases gk with
                        | zero => exact absurd HA.out (by simp [casketlaw10_DictNames.l2])
                        | succ k4 =>
                          have H := HA.out
                          clear HA
                          simp only [casketlaw10_DictNames.l2] at H
                          by_cases c26 : x15_4 < x13_3
                          · rw [if_pos c26] at H
                            have c26b0 : decide (x15_4 < x13_3) = true := decide_eq_true c26
                            clear c26
                            by_cases c27 : x14_4 = true
                            · subst c27
                              have H1 : (if 0 ≤ x15_4 then (if x15_4 < (l0.length : Int) then (if 0 ≤ x13_3 then (if x13_3 < (l0.length : Int) then (casketlaw10_DictNames.l2 k4 l0 t415 t420 t424 x12_3 x13_3 ((rd l0 x15_4) != (rd l0 x13_3)) (wrap64 (x15_4 + 1))) else (none)) else (none)) else (none)) else (none)) = some r := by rw [if_pos rfl] at H; exact H
                              clear H
                              have H := H1
                              clear H1
                              by_cases c28 : 0 ≤ x15_4
                              · rw [if_pos c28] at H
                                have c28b0 : decide (0 ≤ x15_4) = true := decide_eq_true c28
                                clear c28
                                by_cases c29 : x15_4 < (l0.length : Int)
                                · rw [if_pos c29] at H
                                  have c29b0 : decide (x15_4 < (l0.length : Int)) = true := decide_eq_true c29
                                  clear c29
                                  by_cases c30 : 0 ≤ x13_3
                                  · rw [if_pos c30] at H
                                    have c30b0 : decide (0 ≤ x13_3) = true := decide_eq_true c30
                                    clear c30
                                    by_cases c31 : x13_3 < (l0.length : Int)
                                    · rw [if_pos c31] at H
                                      have c31b0 : decide (x13_3 < (l0.length : Int)) = true := decide_eq_true c31
                                      clear c31
                                      have H' := Aside0.mk H
                                      clear H
                                      have p428 : 0 ≤ (x15_4 : Int) := of_decide_eq_true (by first | (with_reducible assumption) | assumption)
                                      have q428 : x15_4 < (l0.length : Int) := of_decide_eq_true (by first | (with_reducible assumption) | assumption)
                                      obtain ⟨ad428, e428, hx428_0⟩ := Kd.at_int HR0.out x15_4 p428 q428
                                      cases e428
                                      replace hx428_0 := (HB.out.cell (World.block_lt_of_cell? w _ hx428_0)).trans hx428_0
                                      replace p428 := eq_true p428
                                      replace q428 := eq_true q428
                                      have p429 : 0 ≤ (x13_3 : Int) := of_decide_eq_true (by first | (with_reducible assumption) | assumption)
                                      have q429 : x13_3 < (l0.length : Int) := of_decide_eq_true (by first | (with_reducible assumption) | assumption)
                                      obtain ⟨ad429, e429, hx429_0⟩ := Kd.at_int HR0.out x13_3 p429 q429
                                      obtain rfl : ad428 = ad429 := (by injection e429)
                                      replace hx429_0 := (HB.out.cell (World.block_lt_of_cell? w _ hx429_0)).trans hx429_0
                                      replace p429 := eq_true p429
                                      replace q429 := eq_true q429
                                      go_wp2
                                      repeat (go_quiet (fail); try go_wp2)
                                      go_roundg k4
                                      case measure => have := HK1.out; have := HJ12.out; have := HK3.out; have := HK4.out; omega
                                      case rel => exact ⟨(((rd l0 x15_4) != (rd l0 x13_3))), (wrap64 (x15_4 + 1)), (by first | rfl | (simp; done) | (simp [*]; done)), (by first | rfl | (simp; done) | (simp [*]; done)), H', ⟨by have := HK1.out; have := HJ12.out; have := HK3.out; have := HK4.out; omega⟩, ⟨by (with_reducible repeat (first | apply Kd.R_alloc | apply Kd.R_drewN | apply Kd.R_drew)); exact HO_8.out⟩, ⟨by (with_reducible repeat (first | apply Kd.R_alloc | apply Kd.R_drewN | apply Kd.R_drew)); exact HO_10.out⟩, ⟨by repeat (first | (with_reducible first | exact HB.out | apply below_alloc | apply pw_below_drewN | apply below_drew1) | exact HB.out)⟩⟩
                                    · rw [if_neg c31] at H
                                      exact absurd H (by simp)
                                  · rw [if_neg c30] at H
                                    exact absurd H (by simp)
                                · rw [if_neg c29] at H
                                  exact absurd H (by simp)
                              · rw [if_neg c28] at H
                                exact absurd H (by simp)
                            · replace c27 := Bool.eq_false_iff.mpr c27
                              subst c27
                              have H1 : (casketlaw10_DictNames.l2 k4 l0 t415 t420 t424 x12_3 x13_3 false (wrap64 (x15_4 + 1))) = some r := by rw [if_neg (show ¬ (false = true) by decide)] at H; exact H
                              clear H
                              have H := H1
                              clear H1
                              have H' := Aside0.mk H
                              clear H
                              go_wp2
                              repeat (go_quiet (fail); try go_wp2)
                              go_roundg k4
                              case measure => have := HK1.out; have := HJ12.out; have := HK3.out; have := HK4.out; omega
                              case rel => exact ⟨(false), (wrap64 (x15_4 + 1)), (by first | rfl | (simp; done) | (simp [*]; done)), (by first | rfl | (simp; done) | (simp [*]; done)), H', ⟨by have := HK1.out; have := HJ12.out; have := HK3.out; have := HK4.out; omega⟩, ⟨by (with_reducible repeat (first | apply Kd.R_alloc | apply Kd.R_drewN | apply Kd.R_drew)); exact HO_8.out⟩, ⟨by (with_reducible repeat (first | apply Kd.R_alloc | apply Kd.R_drewN | apply Kd.R_drew)); exact HO_10.out⟩, ⟨by repeat (first | (with_reducible first | exact HB.out | apply below_alloc | apply pw_below_drewN | apply below_drew1) | exact HB.out)⟩⟩
                          · rw [if_neg c26] at H
                            have c26b0 : decide (x15_4 < x13_3) = false := decide_eq_false c26
                            clear c26
                            by_cases c32 : x14_4 = true
                            · subst c32
                              have H1 : (casketlaw10_DictNames.l1 k4 l0 t415 t420 t424 (wrap64 (x12_3 + 1)) (wrap64 (x13_3 + 1))) = some r := by rw [if_pos rfl] at H; exact H
                              clear H
                              have H := H1
                              clear H1
                              have H' := Aside0.mk H
                              clear H
                              go_wp2
                              repeat (go_quiet (fail); try go_wp2)
                              go_roundg k4
                              case measure => have := HK1.out; have := HJ12.out; have := HK3.out; have := HK4.out; omega
                              case rel => exact ⟨(wrap64 (x12_3 + 1)), (wrap64 (x13_3 + 1)), (by first | rfl | (simp; done) | (simp [*]; done)), (by first | rfl | (simp; done) | (simp [*]; done)), H', ⟨by have := HK1.out; have := HJ12.out; have := HK3.out; have := HK4.out; omega⟩, ⟨by (with_reducible repeat (first | apply Kd.R_alloc | apply Kd.R_drewN | apply Kd.R_drew)); exact HO_8.out⟩, ⟨by (with_reducible repeat (first | apply Kd.R_alloc | apply Kd.R_drewN | apply Kd.R_drew)); exact HO_10.out⟩, ⟨by repeat (first | (with_reducible first | exact HB.out | apply below_alloc | apply pw_below_drewN | apply below_drew1) | exact HB.out)⟩⟩
                            · replace c32 := Bool.eq_false_iff.mpr c32
                              subst c32
                              have H1 : (casketlaw10_DictNames.l1 k4 l0 t415 t420 t424 x12_3 (wrap64 (x13_3 + 1))) = some r := by rw [if_neg (show ¬ (false = true) by decide)] at H; exact H
                              clear H
                              have H := H1
                              clear H1
                              have H' := Aside0.mk H
                              clear H
                              go_wp2
                              repeat (go_quiet (fail); try go_wp2)
                              go_roundg k4
                              case measure => have := HK1.out; have := HJ12.out; have := HK3.out; have := HK4.out; omega
                              case rel => exact ⟨(x12_3), (wrap64 (x13_3 + 1)), (by first | rfl | (simp; done) | (simp [*]; done)), (by first | rfl | (simp; done) | (simp [*]; done)), H', ⟨by have := HK1.out; have := HJ12.out; have := HK3.out; have := HK4.out; omega⟩, ⟨by (with_reducible repeat (first | apply Kd.R_alloc | apply Kd.R_drewN | apply Kd.R_drew)); exact HO_8.out⟩, ⟨by (with_reducible repeat (first | apply Kd.R_alloc | apply Kd.R_drewN | apply Kd.R_drew)); exact HO_10.out⟩, ⟨by repeat (first | (with_reducible first | exact HB.out | apply below_alloc | apply pw_below_drewN | apply below_drew1) | exact HB.out)⟩⟩
                    · rw [if_neg c25] at H
                      have c25b0 : decide (x13_3 < (l0.length : Int)) = false := decide_eq_false c25
                      clear c25
                      by_cases c33 : x12_3 > 127
                      · rw [if_pos c33] at H
                        have c33b0 : decide (127 < x12_3) = true := decide_eq_true c33
                        clear c33
                        by_cases c34 : t415 = true
                        · subst c34
                          have H1 : (if (wrap64 (2 + (wrap64 (8 * x12_3)))) ≤ (t420.length : Int) then (if 2 ≤ (t420.length : Int) then (if 2 ≤ (t424.length : Int) then ((casketref01_Same.f k3 (t420.take 2) (t424.take 2)).bind fun t438 => (if t438 = true then (if 0 ≤ (wrap64 (2 + (wrap64 (8 * x12_3)))) then (if (wrap64 (2 + (wrap64 (8 * x12_3)))) ≤ (t424.length : Int) then ((casketref01_Same.f k3 (t420.drop ((wrap64 (2 + (wrap64 (8 * x12_3)))) : Int).toNat) (t424.drop ((wrap64 (2 + (wrap64 (8 * x12_3)))) : Int).toNat)).bind fun t447 => (some t447)) else (none)) else (none)) else (some false))) else (none)) else (none)) else (some false)) = some r := by rw [if_pos rfl] at H; exact H
                          clear H
                          have H := H1
                          clear H1
                          by_cases c35 : (wrap64 (2 + (wrap64 (8 * x12_3)))) ≤ (t420.length : Int)
                          · rw [if_pos c35] at H
                            have c35b0 : decide ((wrap64 (2 + (wrap64 (8 * x12_3)))) ≤ (t420.length : Int)) = true := decide_eq_true c35
                            clear c35
                            by_cases c36 : 2 ≤ (t420.length : Int)
                            · rw [if_pos c36] at H
                              have c36b0 := eq_true c36
                              have c36b1 : decide (2 ≤ (t420.length : Int)) = true := decide_eq_true c36
                              clear c36
                              obtain ⟨y430, hy430⟩ : ∃ y_ : List Int, y_ = (t420.take 2) := ⟨_, rfl⟩
                              replace H : (if 2 ≤ (t424.length : Int) then ((casketref01_Same.f k3 y430 (t424.take 2)).bind fun t438 => (if t438 = true then (if 0 ≤ (wrap64 (2 + (wrap64 (8 * x12_3)))) then (if (wrap64 (2 + (wrap64 (8 * x12_3)))) ≤ (t424.length : Int) then ((casketref01_Same.f k3 (t420.drop ((wrap64 (2 + (wrap64 (8 * x12_3)))) : Int).toNat) (t424.drop ((wrap64 (2 + (wrap64 (8 * x12_3)))) : Int).toNat)).bind fun t447 => (some t447)) else (none)) else (none)) else (some false))) else (none)) = some r := by first | (rw [hy430]; with_reducible exact H) | (have H2_ := (Option.bind_some _ _).symm.trans H; rw [hy430]; with_reducible exact H2_) | (have H2_ := (Option.bind_some _ _).symm.trans H; with_reducible exact H2_) | with_reducible exact H | (rw [hy430]; exact H) | exact H
                              have Ny430 := Aside0.mk hy430
                              clear hy430
                              by_cases c37 : 2 ≤ (t424.length : Int)
                              · rw [if_pos c37] at H
                                have c37b0 := eq_true c37
                                have c37b1 : decide (2 ≤ (t424.length : Int)) = true := decide_eq_true c37
                                clear c37
                                obtain ⟨y434, hy434⟩ : ∃ y_ : List Int, y_ = (t424.take 2) := ⟨_, rfl⟩
                                replace H : ((casketref01_Same.f k3 y430 y434).bind fun t438 => (if t438 = true then (if 0 ≤ (wrap64 (2 + (wrap64 (8 * x12_3)))) then (if (wrap64 (2 + (wrap64 (8 * x12_3)))) ≤ (t424.length : Int) then ((casketref01_Same.f k3 (t420.drop ((wrap64 (2 + (wrap64 (8 * x12_3)))) : Int).toNat) (t424.drop ((wrap64 (2 + (wrap64 (8 * x12_3)))) : Int).toNat)).bind fun t447 => (some t447)) else (none)) else (none)) else (some false))) = some r := by first | (rw [hy434]; with_reducible exact H) | (have H2_ := (Option.bind_some _ _).symm.trans H; rw [hy434]; with_reducible exact H2_) | (have H2_ := (Option.bind_some _ _).symm.trans H; with_reducible exact H2_) | with_reducible exact H | (rw [hy434]; exact H) | exact H
                                have Ny434 := Aside0.mk hy434
                                clear hy434
                                replace H := Option.bind_eq_some_iff.mp H
                                obtain ⟨t438, A380, H⟩ := H
                                replace H : (if t438 = true then (if 0 ≤ (wrap64 (2 + (wrap64 (8 * x12_3)))) then (if (wrap64 (2 + (wrap64 (8 * x12_3)))) ≤ (t424.length : Int) then ((casketref01_Same.f k3 (t420.drop ((wrap64 (2 + (wrap64 (8 * x12_3)))) : Int).toNat) (t424.drop ((wrap64 (2 + (wrap64 (8 * x12_3)))) : Int).toNat)).bind fun t447 => (some t447)) else (none)) else (none)) else (some false)) = some r := H
                                have A38 := Aside0.mk A380
                                clear A380
                                by_cases c39 : t438 = true
                                · subst c39
                                  have H1 : (if 0 ≤ (wrap64 (2 + (wrap64 (8 * x12_3)))) then (if (wrap64 (2 + (wrap64 (8 * x12_3)))) ≤ (t424.length : Int) then ((casketref01_Same.f k3 (t420.drop ((wrap64 (2 + (wrap64 (8 * x12_3)))) : Int).toNat) (t424.drop ((wrap64 (2 + (wrap64 (8 * x12_3)))) : Int).toNat)).bind fun t447 => (some t447)) else (none)) else (none)) = some r := by rw [if_pos rfl] at H; exact H
                                  clear H
                                  have H := H1
                                  clear H1
                                  obtain ⟨ji40, hji40⟩ : ∃ j_ : Int, (wrap64 (2 + (wrap64 (8 * x12_3)))) = j_ := ⟨_, rfl⟩
                                  replace H : (if 0 ≤ (ji40) then (if (ji40) ≤ (t424.length : Int) then ((casketref01_Same.f k3 (t420.drop ((ji40) : Int).toNat) (t424.drop ((ji40) : Int).toNat)).bind fun t447 => (some t447)) else (none)) else (none)) = some r := by first | (rw [hji40] at H; exact H) | (simp only [hji40] at H ⊢; exact H)
                                  (try rw [hji40] at c35b0)
                                  (try rw [hji40] at A38)
                                  have hji40w : (IntKind.i64.wrap (2 + (wrap64 (8 * x12_3)))) = ji40 := (i64_w _).trans hji40
                                  by_cases c41 : 0 ≤ (ji40)
                                  · rw [if_pos c41] at H
                                    have c41b0 := eq_true c41
                                    have c41b1 : decide (0 ≤ (ji40)) = true := decide_eq_true c41
                                    clear c41
                                    have c42b0 := eq_true (of_decide_eq_true (by first | (with_reducible assumption) | assumption) : (ji40) ≤ (t420.length : Int))
                                    obtain ⟨y439, hy439⟩ : ∃ y_ : List Int, y_ = (t420.drop ((ji40) : Int).toNat) := ⟨_, rfl⟩
                                    replace H : (if (ji40) ≤ (t424.length : Int) then ((casketref01_Same.f k3 y439 (t424.drop ((ji40) : Int).toNat)).bind fun t447 => (some t447)) else (none)) = some r := by first | (rw [hy439]; with_reducible exact H) | (have H2_ := (Option.bind_some _ _).symm.trans H; rw [hy439]; with_reducible exact H2_) | (have H2_ := (Option.bind_some _ _).symm.trans H; with_reducible exact H2_) | with_reducible exact H | (rw [hy439]; exact H) | exact H
                                    have Ny439 := Aside0.mk hy439
                                    clear hy439
                                    have c43b0 := eq_true (of_decide_eq_true (by first | (with_reducible assumption) | assumption) : 0 ≤ (ji40))
                                    by_cases c44 : (ji40) ≤ (t424.length : Int)
                                    · rw [if_pos c44] at H
                                      have c44b0 := eq_true c44
                                      have c44b1 : decide ((ji40) ≤ (t424.length : Int)) = true := decide_eq_true c44
                                      clear c44
                                      obtain ⟨y443, hy443⟩ : ∃ y_ : List Int, y_ = (t424.drop ((ji40) : Int).toNat) := ⟨_, rfl⟩
                                      replace H : ((casketref01_Same.f k3 y439 y443).bind fun t447 => (some t447)) = some r := by first | (rw [hy443]; with_reducible exact H) | (have H2_ := (Option.bind_some _ _).symm.trans H; rw [hy443]; with_reducible exact H2_) | (have H2_ := (Option.bind_some _ _).symm.trans H; with_reducible exact H2_) | with_reducible exact H | (rw [hy443]; exact H) | exact H
                                      have Ny443 := Aside0.mk hy443
                                      clear hy443
                                      replace H := Option.bind_eq_some_iff.mp H
                                      obtain ⟨t447, A450, H⟩ := H
                                      replace H : (some t447) = some r := H
                                      have A45 := Aside0.mk A450
                                      clear A450
                                      obtain rfl := Option.some.inj H
                                      obtain ⟨Ao46, co46, eo46⟩ := Kd.R_slice HO_8.out
                                      subst eo46
                                      have q47 : (2 : Int) ≤ ((t420.length : Int) : Int) := of_decide_eq_true (by first | (with_reducible assumption) | assumption)
                                      obtain ⟨i047, hi047, _, hsz47, _⟩ := info_parts info5
                                      have hroom47 : t420.length ≤ co46 := (Kd.R_reads' HO_8.out).2.1
                                      have hC47 : Kd.C (Kd.int .u8) _ Ao46 t420.length t420 := (Kd.R_reads' HO_8.out).2.2
                                      have hcut47 := cut_to (P := Try.prog) 24 5 .i64 Try.underlying24 hi047 Ao46 t420.length co46 2 (by omega) q47 hroom47
                                      have hr47 := Kd.C_take (m := 2) hC47 (by omega)
                                      have hy47 : y430.length = (2 : Int).toNat := (by rw [Ny430.out, List.length_take]; omega)
                                      rw [← Ny430.out] at hr47
                                      rw [← hy47] at hcut47
                                      have HR433 := Aside0.mk hr47
                                      have HC433 := Aside0.mk (show y430.length ≤ co46 from by omega)
                                      clear hr47 hC47 hroom47 hi047 hsz47
                                      have KY47 := Aside0.mk hy47
                                      clear hy47
                                      have KL47 := Aside0.mk (show 2 ≤ t420.length from by omega)
                                      replace q47 := eq_true q47
                                      obtain ⟨Ao49, co49, eo49⟩ := Kd.R_slice HO_10.out
                                      subst eo49
                                      have q48 : (2 : Int) ≤ ((t424.length : Int) : Int) := of_decide_eq_true (by first | (with_reducible assumption) | assumption)
                                      obtain ⟨i048, hi048, _, hsz48, _⟩ := info_parts info5
                                      have hroom48 : t424.length ≤ co49 := (Kd.R_reads' HO_10.out).2.1
                                      have hC48 : Kd.C (Kd.int .u8) _ Ao49 t424.length t424 := (Kd.R_reads' HO_10.out).2.2
                                      have hcut48 := cut_to (P := Try.prog) 24 5 .i64 Try.underlying24 hi048 Ao49 t424.length co49 2 (by omega) q48 hroom48
                                      have hr48 := Kd.C_take (m := 2) hC48 (by omega)
                                      have hy48 : y434.length = (2 : Int).toNat := (by rw [Ny434.out, List.length_take]; omega)
                                      rw [← Ny434.out] at hr48
                                      rw [← hy48] at hcut48
                                      have HR437 := Aside0.mk hr48
                                      have HC437 := Aside0.mk (show y434.length ≤ co49 from by omega)
                                      clear hr48 hC48 hroom48 hi048 hsz48
                                      have KY48 := Aside0.mk hy48
                                      clear hy48
                                      have KL48 := Aside0.mk (show 2 ≤ t424.length from by omega)
                                      replace q48 := eq_true q48
                                      go_wp2_with (first | (go_at_call 11; (with_reducible refine (casketref01_Same.calls k3 _ _ y430 _ _ y434 true _ ?side1 ?side2 ?side3 ?side4 A38.out).mono ?_); (case side1 => repeat (first | exact (by repeat (first | (with_reducible exact HR433.out) | (with_reducible refine Kd.C_alloc ?_ _) | (with_reducible refine Kd.C_drewN ?_ _) | (with_reducible refine Kd.C_drew ?_) | exact HR433.out)) | (with_reducible refine Kd.C_alloc ?_ _) | (with_reducible refine Kd.C_drewN ?_ _) | (with_reducible refine Kd.C_drew ?_))); (case side2 => exact HC433.out); (case side3 => repeat (first | exact (by repeat (first | (with_reducible exact HR437.out) | (with_reducible refine Kd.C_alloc ?_ _) | (with_reducible refine Kd.C_drewN ?_ _) | (with_reducible refine Kd.C_drew ?_) | exact HR437.out)) | (with_reducible refine Kd.C_alloc ?_ _) | (with_reducible refine Kd.C_drewN ?_ _) | (with_reducible refine Kd.C_drew ?_))); (case side4 => exact HC437.out); rintro e w' ⟨rfl, ⟨nd, rfl⟩⟩; (try first | exact ⟨rfl, _, World.drewN_drewN _ _ _⟩ | exact ⟨rfl, _, Eq.trans (World.drewN_drewN _ _ _) (congrArg (World.drewN _) (Nat.add_assoc _ _ _))⟩); have q50 : ((ji40) : Int) ≤ ((t420.length : Int) : Int) := of_decide_eq_true (by first | (with_reducible assumption) | assumption); obtain ⟨i050, hi050, _, hsz50, _⟩ := info_parts info5; have hroom50 : t420.length ≤ co46 := (Kd.R_reads' HO_8.out).2.1; have hC50 : Kd.C (Kd.int .u8) _ Ao46 t420.length t420 := (Kd.R_reads' HO_8.out).2.2; have q050 : (0 : Int) ≤ ((ji40) : Int) := of_decide_eq_true (by first | (with_reducible assumption) | assumption); have hcut50 := cut_from (P := Try.prog) 24 5 .i64 Try.underlying24 hi050 1 hsz50 Ao46 t420.length co46 (ji40) q050 q50; have hr50 := Kd.C_drop (m := ((ji40) : Int).toNat) (c := co46) hC50 (by omega) hroom50; obtain ⟨A50, hA50⟩ : ∃ A1, A1 = (if co46 = ((ji40) : Int).toNat then Ao46 else (Ao46 : Option Addr).map (·.add (((ji40) : Int).toNat * 1))) := ⟨_, rfl⟩; obtain ⟨c50, hc50⟩ : ∃ c1, c1 = co46 - ((ji40) : Int).toNat := ⟨_, rfl⟩; have hy50 : y439.length = t420.length - ((ji40) : Int).toNat := (by rw [Ny439.out, List.length_drop] <;> omega); rw [show (t420).drop ((ji40) : Int).toNat = y439 from Ny439.out.symm] at hr50; replace hr50 : Kd.C (Kd.int .u8) _ A50 y439.length y439 := (by rw [hA50]; exact hr50); rw [← hy50, ← hA50, ← hc50] at hcut50; have HR442 := Aside0.mk hr50; have HC442 := Aside0.mk (show y439.length ≤ c50 from by rw [hy50, hc50]; exact Nat.sub_le_sub_right hroom50 _); clear hr50 hC50 hroom50 hi050 hsz50 hc50; have KY50 := Aside0.mk hy50; have KA50 := Aside0.mk hA50; clear hy50 hA50; have KL50 := Aside0.mk (show ((ji40) : Int).toNat ≤ t420.length from by omega); replace q50 := eq_true q50; have q51 : ((ji40) : Int) ≤ ((t424.length : Int) : Int) := of_decide_eq_true (by first | (with_reducible assumption) | assumption); obtain ⟨i051, hi051, _, hsz51, _⟩ := info_parts info5; have hroom51 : t424.length ≤ co49 := (Kd.R_reads' HO_10.out).2.1; have hC51 : Kd.C (Kd.int .u8) _ Ao49 t424.length t424 := (Kd.R_reads' HO_10.out).2.2; have q051 : (0 : Int) ≤ ((ji40) : Int) := of_decide_eq_true (by first | (with_reducible assumption) | assumption); have hcut51 := cut_from (P := Try.prog) 24 5 .i64 Try.underlying24 hi051 1 hsz51 Ao49 t424.length co49 (ji40) q051 q51; have hr51 := Kd.C_drop (m := ((ji40) : Int).toNat) (c := co49) hC51 (by omega) hroom51; obtain ⟨A51, hA51⟩ : ∃ A1, A1 = (if co49 = ((ji40) : Int).toNat then Ao49 else (Ao49 : Option Addr).map (·.add (((ji40) : Int).toNat * 1))) := ⟨_, rfl⟩; obtain ⟨c51, hc51⟩ : ∃ c1, c1 = co49 - ((ji40) : Int).toNat := ⟨_, rfl⟩; have hy51 : y443.length = t424.length - ((ji40) : Int).toNat := (by rw [Ny443.out, List.length_drop] <;> omega); rw [show (t424).drop ((ji40) : Int).toNat = y443 from Ny443.out.symm] at hr51; replace hr51 : Kd.C (Kd.int .u8) _ A51 y443.length y443 := (by rw [hA51]; exact hr51); rw [← hy51, ← hA51, ← hc51] at hcut51; have HR446 := Aside0.mk hr51; have HC446 := Aside0.mk (show y443.length ≤ c51 from by rw [hy51, hc51]; exact Nat.sub_le_sub_right hroom51 _); clear hr51 hC51 hroom51 hi051 hsz51 hc51; have KY51 := Aside0.mk hy51; have KA51 := Aside0.mk hA51; clear hy51 hA51; have KL51 := Aside0.mk (show ((ji40) : Int).toNat ≤ t424.length from by omega); replace q51 := eq_true q51) | (go_at_call 11; (with_reducible refine (casketref01_Same.calls k3 _ _ y439 _ _ y443 t447 _ ?side1 ?side2 ?side3 ?side4 A45.out).mono ?_); (case side1 => repeat (first | exact (by repeat (first | (with_reducible exact HR442.out) | (with_reducible refine Kd.C_alloc ?_ _) | (with_reducible refine Kd.C_drewN ?_ _) | (with_reducible refine Kd.C_drew ?_) | exact HR442.out)) | (with_reducible refine Kd.C_alloc ?_ _) | (with_reducible refine Kd.C_drewN ?_ _) | (with_reducible refine Kd.C_drew ?_))); (case side2 => exact HC442.out); (case side3 => repeat (first | exact (by repeat (first | (with_reducible exact HR446.out) | (with_reducible refine Kd.C_alloc ?_ _) | (with_reducible refine Kd.C_drewN ?_ _) | (with_reducible refine Kd.C_drew ?_) | exact HR446.out)) | (with_reducible refine Kd.C_alloc ?_ _) | (with_reducible refine Kd.C_drewN ?_ _) | (with_reducible refine Kd.C_drew ?_))); (case side4 => exact HC446.out); rintro e w' ⟨rfl, ⟨nd, rfl⟩⟩; (try first | exact ⟨rfl, _, World.drewN_drewN _ _ _⟩ | exact ⟨rfl, _, Eq.trans (World.drewN_drewN _ _ _) (congrArg (World.drewN _) (Nat.add_assoc _ _ _))⟩)))
                                      repeat (go_quiet (first | (go_at_call 11; (with_reducible refine (casketref01_Same.calls k3 _ _ y430 _ _ y434 true _ ?side1 ?side2 ?side3 ?side4 A38.out).mono ?_); (case side1 => repeat (first | exact (by repeat (first | (with_reducible exact HR433.out) | (with_reducible refine Kd.C_alloc ?_ _) | (with_reducible refine Kd.C_drewN ?_ _) | (with_reducible refine Kd.C_drew ?_) | exact HR433.out)) | (with_reducible refine Kd.C_alloc ?_ _) | (with_reducible refine Kd.C_drewN ?_ _) | (with_reducible refine Kd.C_drew ?_))); (case side2 => exact HC433.out); (case side3 => repeat (first | exact (by repeat (first | (with_reducible exact HR437.out) | (with_reducible refine Kd.C_alloc ?_ _) | (with_reducible refine Kd.C_drewN ?_ _) | (with_reducible refine Kd.C_drew ?_) | exact HR437.out)) | (with_reducible refine Kd.C_alloc ?_ _) | (with_reducible refine Kd.C_drewN ?_ _) | (with_reducible refine Kd.C_drew ?_))); (case side4 => exact HC437.out); rintro e w' ⟨rfl, ⟨nd, rfl⟩⟩; (try first | exact ⟨rfl, _, World.drewN_drewN _ _ _⟩ | exact ⟨rfl, _, Eq.trans (World.drewN_drewN _ _ _) (congrArg (World.drewN _) (Nat.add_assoc _ _ _))⟩); have q50 : ((ji40) : Int) ≤ ((t420.length : Int) : Int) := of_decide_eq_true (by first | (with_reducible assumption) | assumption); obtain ⟨i050, hi050, _, hsz50, _⟩ := info_parts info5; have hroom50 : t420.length ≤ co46 := (Kd.R_reads' HO_8.out).2.1; have hC50 : Kd.C (Kd.int .u8) _ Ao46 t420.length t420 := (Kd.R_reads' HO_8.out).2.2; have q050 : (0 : Int) ≤ ((ji40) : Int) := of_decide_eq_true (by first | (with_reducible assumption) | assumption); have hcut50 := cut_from (P := Try.prog) 24 5 .i64 Try.underlying24 hi050 1 hsz50 Ao46 t420.length co46 (ji40) q050 q50; have hr50 := Kd.C_drop (m := ((ji40) : Int).toNat) (c := co46) hC50 (by omega) hroom50; obtain ⟨A50, hA50⟩ : ∃ A1, A1 = (if co46 = ((ji40) : Int).toNat then Ao46 else (Ao46 : Option Addr).map (·.add (((ji40) : Int).toNat * 1))) := ⟨_, rfl⟩; obtain ⟨c50, hc50⟩ : ∃ c1, c1 = co46 - ((ji40) : Int).toNat := ⟨_, rfl⟩; have hy50 : y439.length = t420.length - ((ji40) : Int).toNat := (by rw [Ny439.out, List.length_drop] <;> omega); rw [show (t420).drop ((ji40) : Int).toNat = y439 from Ny439.out.symm] at hr50; replace hr50 : Kd.C (Kd.int .u8) _ A50 y439.length y439 := (by rw [hA50]; exact hr50); rw [← hy50, ← hA50, ← hc50] at hcut50; have HR442 := Aside0.mk hr50; have HC442 := Aside0.mk (show y439.length ≤ c50 from by rw [hy50, hc50]; exact Nat.sub_le_sub_right hroom50 _); clear hr50 hC50 hroom50 hi050 hsz50 hc50; have KY50 := Aside0.mk hy50; have KA50 := Aside0.mk hA50; clear hy50 hA50; have KL50 := Aside0.mk (show ((ji40) : Int).toNat ≤ t420.length from by omega); replace q50 := eq_true q50; have q51 : ((ji40) : Int) ≤ ((t424.length : Int) : Int) := of_decide_eq_true (by first | (with_reducible assumption) | assumption); obtain ⟨i051, hi051, _, hsz51, _⟩ := info_parts info5; have hroom51 : t424.length ≤ co49 := (Kd.R_reads' HO_10.out).2.1; have hC51 : Kd.C (Kd.int .u8) _ Ao49 t424.length t424 := (Kd.R_reads' HO_10.out).2.2; have q051 : (0 : Int) ≤ ((ji40) : Int) := of_decide_eq_true (by first | (with_reducible assumption) | assumption); have hcut51 := cut_from (P := Try.prog) 24 5 .i64 Try.underlying24 hi051 1 hsz51 Ao49 t424.length co49 (ji40) q051 q51; have hr51 := Kd.C_drop (m := ((ji40) : Int).toNat) (c := co49) hC51 (by omega) hroom51; obtain ⟨A51, hA51⟩ : ∃ A1, A1 = (if co49 = ((ji40) : Int).toNat then Ao49 else (Ao49 : Option Addr).map (·.add (((ji40) : Int).toNat * 1))) := ⟨_, rfl⟩; obtain ⟨c51, hc51⟩ : ∃ c1, c1 = co49 - ((ji40) : Int).toNat := ⟨_, rfl⟩; have hy51 : y443.length = t424.length - ((ji40) : Int).toNat := (by rw [Ny443.out, List.length_drop] <;> omega); rw [show (t424).drop ((ji40) : Int).toNat = y443 from Ny443.out.symm] at hr51; replace hr51 : Kd.C (Kd.int .u8) _ A51 y443.length y443 := (by rw [hA51]; exact hr51); rw [← hy51, ← hA51, ← hc51] at hcut51; have HR446 := Aside0.mk hr51; have HC446 := Aside0.mk (show y443.length ≤ c51 from by rw [hy51, hc51]; exact Nat.sub_le_sub_right hroom51 _); clear hr51 hC51 hroom51 hi051 hsz51 hc51; have KY51 := Aside0.mk hy51; have KA51 := Aside0.mk hA51; clear hy51 hA51; have KL51 := Aside0.mk (show ((ji40) : Int).toNat ≤ t424.length from by omega); replace q51 := eq_true q51) | (go_at_call 11; (with_reducible refine (casketref01_Same.calls k3 _ _ y439 _ _ y443 t447 _ ?side1 ?side2 ?side3 ?side4 A45.out).mono ?_); (case side1 => repeat (first | exact (by repeat (first | (with_reducible exact HR442.out) | (with_reducible refine Kd.C_alloc ?_ _) | (with_reducible refine Kd.C_drewN ?_ _) | (with_reducible refine Kd.C_drew ?_) | exact HR442.out)) | (with_reducible refine Kd.C_alloc ?_ _) | (with_reducible refine Kd.C_drewN ?_ _) | (with_reducible refine Kd.C_drew ?_))); (case side2 => exact HC442.out); (case side3 => repeat (first | exact (by repeat (first | (with_reducible exact HR446.out) | (with_reducible refine Kd.C_alloc ?_ _) | (with_reducible refine Kd.C_drewN ?_ _) | (with_reducible refine Kd.C_drew ?_) | exact HR446.out)) | (with_reducible refine Kd.C_alloc ?_ _) | (with_reducible refine Kd.C_drewN ?_ _) | (with_reducible refine Kd.C_drew ?_))); (case side4 => exact HC446.out); rintro e w' ⟨rfl, ⟨nd, rfl⟩⟩; (try first | exact ⟨rfl, _, World.drewN_drewN _ _ _⟩ | exact ⟨rfl, _, Eq.trans (World.drewN_drewN _ _ _) (congrArg (World.drewN _) (Nat.add_assoc _ _ _))⟩))); try go_wp2_with (first | (go_at_call 11; (with_reducible refine (casketref01_Same.calls k3 _ _ y430 _ _ y434 true _ ?side1 ?side2 ?side3 ?side4 A38.out).mono ?_); (case side1 => repeat (first | exact (by repeat (first | (with_reducible exact HR433.out) | (with_reducible refine Kd.C_alloc ?_ _) | (with_reducible refine Kd.C_drewN ?_ _) | (with_reducible refine Kd.C_drew ?_) | exact HR433.out)) | (with_reducible refine Kd.C_alloc ?_ _) | (with_reducible refine Kd.C_drewN ?_ _) | (with_reducible refine Kd.C_drew ?_))); (case side2 => exact HC433.out); (case side3 => repeat (first | exact (by repeat (first | (with_reducible exact HR437.out) | (with_reducible refine Kd.C_alloc ?_ _) | (with_reducible refine Kd.C_drewN ?_ _) | (with_reducible refine Kd.C_drew ?_) | exact HR437.out)) | (with_reducible refine Kd.C_alloc ?_ _) | (with_reducible refine Kd.C_drewN ?_ _) | (with_reducible refine Kd.C_drew ?_))); (case side4 => exact HC437.out); rintro e w' ⟨rfl, ⟨nd, rfl⟩⟩; (try first | exact ⟨rfl, _, World.drewN_drewN _ _ _⟩ | exact ⟨rfl, _, Eq.trans (World.drewN_drewN _ _ _) (congrArg (World.drewN _) (Nat.add_assoc _ _ _))⟩); have q50 : ((ji40) : Int) ≤ ((t420.length : Int) : Int) := of_decide_eq_true (by first | (with_reducible assumption) | assumption); obtain ⟨i050, hi050, _, hsz50, _⟩ := info_parts info5; have hroom50 : t420.length ≤ co46 := (Kd.R_reads' HO_8.out).2.1; have hC50 : Kd.C (Kd.int .u8) _ Ao46 t420.length t420 := (Kd.R_reads' HO_8.out).2.2; have q050 : (0 : Int) ≤ ((ji40) : Int) := of_decide_eq_true (by first | (with_reducible assumption) | assumption); have hcut50 := cut_from (P := Try.prog) 24 5 .i64 Try.underlying24 hi050 1 hsz50 Ao46 t420.length co46 (ji40) q050 q50; have hr50 := Kd.C_drop (m := ((ji40) : Int).toNat) (c := co46) hC50 (by omega) hroom50; obtain ⟨A50, hA50⟩ : ∃ A1, A1 = (if co46 = ((ji40) : Int).toNat then Ao46 else (Ao46 : Option Addr).map (·.add (((ji40) : Int).toNat * 1))) := ⟨_, rfl⟩; obtain ⟨c50, hc50⟩ : ∃ c1, c1 = co46 - ((ji40) : Int).toNat := ⟨_, rfl⟩; have hy50 : y439.length = t420.length - ((ji40) : Int).toNat := (by rw [Ny439.out, List.length_drop] <;> omega); rw [show (t420).drop ((ji40) : Int).toNat = y439 from Ny439.out.symm] at hr50; replace hr50 : Kd.C (Kd.int .u8) _ A50 y439.length y439 := (by rw [hA50]; exact hr50); rw [← hy50, ← hA50, ← hc50] at hcut50; have HR442 := Aside0.mk hr50; have HC442 := Aside0.mk (show y439.length ≤ c50 from by rw [hy50, hc50]; exact Nat.sub_le_sub_right hroom50 _); clear hr50 hC50 hroom50 hi050 hsz50 hc50; have KY50 := Aside0.mk hy50; have KA50 := Aside0.mk hA50; clear hy50 hA50; have KL50 := Aside0.mk (show ((ji40) : Int).toNat ≤ t420.length from by omega); replace q50 := eq_true q50; have q51 : ((ji40) : Int) ≤ ((t424.length : Int) : Int) := of_decide_eq_true (by first | (with_reducible assumption) | assumption); obtain ⟨i051, hi051, _, hsz51, _⟩ := info_parts info5; have hroom51 : t424.length ≤ co49 := (Kd.R_reads' HO_10.out).2.1; have hC51 : Kd.C (Kd.int .u8) _ Ao49 t424.length t424 := (Kd.R_reads' HO_10.out).2.2; have q051 : (0 : Int) ≤ ((ji40) : Int) := of_decide_eq_true (by first | (with_reducible assumption) | assumption); have hcut51 := cut_from (P := Try.prog) 24 5 .i64 Try.underlying24 hi051 1 hsz51 Ao49 t424.length co49 (ji40) q051 q51; have hr51 := Kd.C_drop (m := ((ji40) : Int).toNat) (c := co49) hC51 (by omega) hroom51; obtain ⟨A51, hA51⟩ : ∃ A1, A1 = (if co49 = ((ji40) : Int).toNat then Ao49 else (Ao49 : Option Addr).map (·.add (((ji40) : Int).toNat * 1))) := ⟨_, rfl⟩; obtain ⟨c51, hc51⟩ : ∃ c1, c1 = co49 - ((ji40) : Int).toNat := ⟨_, rfl⟩; have hy51 : y443.length = t424.length - ((ji40) : Int).toNat := (by rw [Ny443.out, List.length_drop] <;> omega); rw [show (t424).drop ((ji40) : Int).toNat = y443 from Ny443.out.symm] at hr51; replace hr51 : Kd.C (Kd.int .u8) _ A51 y443.length y443 := (by rw [hA51]; exact hr51); rw [← hy51, ← hA51, ← hc51] at hcut51; have HR446 := Aside0.mk hr51; have HC446 := Aside0.mk (show y443.length ≤ c51 from by rw [hy51, hc51]; exact Nat.sub_le_sub_right hroom51 _); clear hr51 hC51 hroom51 hi051 hsz51 hc51; have KY51 := Aside0.mk hy51; have KA51 := Aside0.mk hA51; clear hy51 hA51; have KL51 := Aside0.mk (show ((ji40) : Int).toNat ≤ t424.length from by omega); replace q51 := eq_true q51) | (go_at_call 11; (with_reducible refine (casketref01_Same.calls k3 _ _ y439 _ _ y443 t447 _ ?side1 ?side2 ?side3 ?side4 A45.out).mono ?_); (case side1 => repeat (first | exact (by repeat (first | (with_reducible exact HR442.out) | (with_reducible refine Kd.C_alloc ?_ _) | (with_reducible refine Kd.C_drewN ?_ _) | (with_reducible refine Kd.C_drew ?_) | exact HR442.out)) | (with_reducible refine Kd.C_alloc ?_ _) | (with_reducible refine Kd.C_drewN ?_ _) | (with_reducible refine Kd.C_drew ?_))); (case side2 => exact HC442.out); (case side3 => repeat (first | exact (by repeat (first | (with_reducible exact HR446.out) | (with_reducible refine Kd.C_alloc ?_ _) | (with_reducible refine Kd.C_drewN ?_ _) | (with_reducible refine Kd.C_drew ?_) | exact HR446.out)) | (with_reducible refine Kd.C_alloc ?_ _) | (with_reducible refine Kd.C_drewN ?_ _) | (with_reducible refine Kd.C_drew ?_))); (case side4 => exact HC446.out); rintro e w' ⟨rfl, ⟨nd, rfl⟩⟩; (try first | exact ⟨rfl, _, World.drewN_drewN _ _ _⟩ | exact ⟨rfl, _, Eq.trans (World.drewN_drewN _ _ _) (congrArg (World.drewN _) (Nat.add_assoc _ _ _))⟩))))
                                      go_ret
                                      exact ⟨by first | rfl | (simp [errW_none, errW_some] <;> rfl) | (simp only [← hji40]; first | rfl | (simp [errW_none, errW_some] <;> rfl)) | (simp [*, errW_none, errW_some] <;> rfl), by repeat (first | (with_reducible first | exact HB.out | apply below_alloc | apply pw_below_drewN | apply below_drew1) | exact HB.out)⟩
                                    · rw [if_neg c44] at H
                                      exact absurd H (by simp)
                                  · rw [if_neg c41] at H
                                    exact absurd H (by simp)
                                · replace c39 := Bool.eq_false_iff.mpr c39
                                  subst c39
                                  have H1 : (some false) = some r := by rw [if_neg (show ¬ (false = true) by decide)] at H; exact H
                                  clear H
                                  have H := H1
                                  clear H1
                                  obtain rfl := Option.some.inj H
                                  obtain ⟨Ao52, co52, eo52⟩ := Kd.R_slice HO_8.out
                                  subst eo52
                                  have q53 : (2 : Int) ≤ ((t420.length : Int) : Int) := of_decide_eq_true (by first | (with_reducible assumption) | assumption)
                                  obtain ⟨i053, hi053, _, hsz53, _⟩ := info_parts info5
                                  have hroom53 : t420.length ≤ co52 := (Kd.R_reads' HO_8.out).2.1
                                  have hC53 : Kd.C (Kd.int .u8) _ Ao52 t420.length t420 := (Kd.R_reads' HO_8.out).2.2
                                  have hcut53 := cut_to (P := Try.prog) 24 5 .i64 Try.underlying24 hi053 Ao52 t420.length co52 2 (by omega) q53 hroom53
                                  have hr53 := Kd.C_take (m := 2) hC53 (by omega)
                                  have hy53 : y430.length = (2 : Int).toNat := (by rw [Ny430.out, List.length_take]; omega)
                                  rw [← Ny430.out] at hr53
                                  rw [← hy53] at hcut53
                                  have HR433 := Aside0.mk hr53
                                  have HC433 := Aside0.mk (show y430.length ≤ co52 from by omega)
                                  clear hr53 hC53 hroom53 hi053 hsz53
                                  have KY53 := Aside0.mk hy53
                                  clear hy53
                                  have KL53 := Aside0.mk (show 2 ≤ t420.length from by omega)
                                  replace q53 := eq_true q53
                                  obtain ⟨Ao55, co55, eo55⟩ := Kd.R_slice HO_10.out
                                  subst eo55
                                  have q54 : (2 : Int) ≤ ((t424.length : Int) : Int) := of_decide_eq_true (by first | (with_reducible assumption) | assumption)
                                  obtain ⟨i054, hi054, _, hsz54, _⟩ := info_parts info5
                                  have hroom54 : t424.length ≤ co55 := (Kd.R_reads' HO_10.out).2.1
                                  have hC54 : Kd.C (Kd.int .u8) _ Ao55 t424.length t424 := (Kd.R_reads' HO_10.out).2.2
                                  have hcut54 := cut_to (P := Try.prog) 24 5 .i64 Try.underlying24 hi054 Ao55 t424.length co55 2 (by omega) q54 hroom54
                                  have hr54 := Kd.C_take (m := 2) hC54 (by omega)
                                  have hy54 : y434.length = (2 : Int).toNat := (by rw [Ny434.out, List.length_take]; omega)
                                  rw [← Ny434.out] at hr54
                                  rw [← hy54] at hcut54
                                  have HR437 := Aside0.mk hr54
                                  have HC437 := Aside0.mk (show y434.length ≤ co55 from by omega)
                                  clear hr54 hC54 hroom54 hi054 hsz54
                                  have KY54 := Aside0.mk hy54
                                  clear hy54
                                  have KL54 := Aside0.mk (show 2 ≤ t424.length from by omega)
                                  replace q54 := eq_true q54
                                  go_wp2_with (first | (go_at_call 11; (with_reducible refine (casketref01_Same.calls k3 _ _ y430 _ _ y434 false _ ?side1 ?side2 ?side3 ?side4 A38.out).mono ?_); (case side1 => repeat (first | exact (by repeat (first | (with_reducible exact HR433.out) | (with_reducible refine Kd.C_alloc ?_ _) | (with_reducible refine Kd.C_drewN ?_ _) | (with_reducible refine Kd.C_drew ?_) | exact HR433.out)) | (with_reducible refine Kd.C_alloc ?_ _) | (with_reducible refine Kd.C_drewN ?_ _) | (with_reducible refine Kd.C_drew ?_))); (case side2 => exact HC433.out); (case side3 => repeat (first | exact (by repeat (first | (with_reducible exact HR437.out) | (with_reducible refine Kd.C_alloc ?_ _) | (with_reducible refine Kd.C_drewN ?_ _) | (with_reducible refine Kd.C_drew ?_) | exact HR437.out)) | (with_reducible refine Kd.C_alloc ?_ _) | (with_reducible refine Kd.C_drewN ?_ _) | (with_reducible refine Kd.C_drew ?_))); (case side4 => exact HC437.out); rintro e w' ⟨rfl, ⟨nd, rfl⟩⟩; (try first | exact ⟨rfl, _, World.drewN_drewN _ _ _⟩ | exact ⟨rfl, _, Eq.trans (World.drewN_drewN _ _ _) (congrArg (World.drewN _) (Nat.add_assoc _ _ _))⟩)))
                                  repeat (go_quiet (first | (go_at_call 11; (with_reducible refine (casketref01_Same.calls k3 _ _ y430 _ _ y434 false _ ?side1 ?side2 ?side3 ?side4 A38.out).mono ?_); (case side1 => repeat (first | exact (by repeat (first | (with_reducible exact HR433.out) | (with_reducible refine Kd.C_alloc ?_ _) | (with_reducible refine Kd.C_drewN ?_ _) | (with_reducible refine Kd.C_drew ?_) | exact HR433.out)) | (with_reducible refine Kd.C_alloc ?_ _) | (with_reducible refine Kd.C_drewN ?_ _) | (with_reducible refine Kd.C_drew ?_))); (case side2 => exact HC433.out); (case side3 => repeat (first | exact (by repeat (first | (with_reducible exact HR437.out) | (with_reducible refine Kd.C_alloc ?_ _) | (with_reducible refine Kd.C_drewN ?_ _) | (with_reducible refine Kd.C_drew ?_) | exact HR437.out)) | (with_reducible refine Kd.C_alloc ?_ _) | (with_reducible refine Kd.C_drewN ?_ _) | (with_reducible refine Kd.C_drew ?_))); (case side4 => exact HC437.out); rintro e w' ⟨rfl, ⟨nd, rfl⟩⟩; (try first | exact ⟨rfl, _, World.drewN_drewN _ _ _⟩ | exact ⟨rfl, _, Eq.trans (World.drewN_drewN _ _ _) (congrArg (World.drewN _) (Nat.add_assoc _ _ _))⟩))); try go_wp2_with (first | (go_at_call 11; (with_reducible refine (casketref01_Same.calls k3 _ _ y430 _ _ y434 false _ ?side1 ?side2 ?side3 ?side4 A38.out).mono ?_); (case side1 => repeat (first | exact (by repeat (first | (with_reducible exact HR433.out) | (with_reducible refine Kd.C_alloc ?_ _) | (with_reducible refine Kd.C_drewN ?_ _) | (with_reducible refine Kd.C_drew ?_) | exact HR433.out)) | (with_reducible refine Kd.C_alloc ?_ _) | (with_reducible refine Kd.C_drewN ?_ _) | (with_reducible refine Kd.C_drew ?_))); (case side2 => exact HC433.out); (case side3 => repeat (first | exact (by repeat (first | (with_reducible exact HR437.out) | (with_reducible refine Kd.C_alloc ?_ _) | (with_reducible refine Kd.C_drewN ?_ _) | (with_reducible refine Kd.C_drew ?_) | exact HR437.out)) | (with_reducible refine Kd.C_alloc ?_ _) | (with_reducible refine Kd.C_drewN ?_ _) | (with_reducible refine Kd.C_drew ?_))); (case side4 => exact HC437.out); rintro e w' ⟨rfl, ⟨nd, rfl⟩⟩; (try first | exact ⟨rfl, _, World.drewN_drewN _ _ _⟩ | exact ⟨rfl, _, Eq.trans (World.drewN_drewN _ _ _) (congrArg (World.drewN _) (Nat.add_assoc _ _ _))⟩))))
                                  go_ret
                                  exact ⟨by first | rfl | (simp [errW_none, errW_some] <;> rfl) | (simp [*, errW_none, errW_some] <;> rfl), by repeat (first | (with_reducible first | exact HB.out | apply below_alloc | apply pw_below_drewN | apply below_drew1) | exact HB.out)⟩
                              · rw [if_neg c37] at H
                                exact absurd H (by simp)
                            · rw [if_neg c36] at H
                              exact absurd H (by simp)
                          · rw [if_neg c35] at H
                            have c35b0 : decide ((wrap64 (2 + (wrap64 (8 * x12_3)))) ≤ (t420.length : Int)) = false := decide_eq_false c35
                            clear c35
                            obtain rfl := Option.some.inj H
                            obtain ⟨Ao56, co56, eo56⟩ := Kd.R_slice HO_8.out
                            subst eo56
                            go_wp2
                            repeat (go_quiet (fail); try go_wp2)
                            go_ret
                            exact ⟨by first | rfl | (simp [errW_none, errW_some] <;> rfl) | (simp [*, errW_none, errW_some] <;> rfl), by repeat (first | (with_reducible first | exact HB.out | apply below_alloc | apply pw_below_drewN | apply below_drew1) | exact HB.out)⟩
                        · replace c34 := Bool.eq_false_iff.mpr c34
                          subst c34
                          have H1 : (some false) = some r := by rw [if_neg (show ¬ (false = true) by decide)] at H; exact H
                          clear H
                          have H := H1
                          clear H1
                          obtain rfl := Option.some.inj H
                          go_wp2
                          repeat (go_quiet (fail); try go_wp2)
                          go_ret
                          exact ⟨by first | rfl | (simp [errW_none, errW_some] <;> rfl) | (simp [*, errW_none, errW_some] <;> rfl), by repeat (first | (with_reducible first | exact HB.out | apply below_alloc | apply pw_below_drewN | apply below_drew1) | exact HB.out)⟩
                      · rw [if_neg c33] at H
                        have c33b0 : decide (127 < x12_3) = false := decide_eq_false c33
                        clear c33
                        by_cases c57 : t415 = true
                        · subst c57
                          have H1 : (if (wrap64 (1 + (wrap64 (8 * x12_3)))) ≤ (t420.length : Int) then (if 1 ≤ (t420.length : Int) then (if 1 ≤ (t424.length : Int) then ((casketref01_Same.f k3 (t420.take 1) (t424.take 1)).bind fun t456 => (if t456 = true then (if 0 ≤ (wrap64 (1 + (wrap64 (8 * x12_3)))) then (if (wrap64 (1 + (wrap64 (8 * x12_3)))) ≤ (t424.length : Int) then ((casketref01_Same.f k3 (t420.drop ((wrap64 (1 + (wrap64 (8 * x12_3)))) : Int).toNat) (t424.drop ((wrap64 (1 + (wrap64 (8 * x12_3)))) : Int).toNat)).bind fun t465 => (some t465)) else (none)) else (none)) else (some false))) else (none)) else (none)) else (some false)) = some r := by rw [if_pos rfl] at H; exact H
                          clear H
                          have H := H1
                          clear H1
                          by_cases c58 : (wrap64 (1 + (wrap64 (8 * x12_3)))) ≤ (t420.length : Int)
                          · rw [if_pos c58] at H
                            have c58b0 : decide ((wrap64 (1 + (wrap64 (8 * x12_3)))) ≤ (t420.length : Int)) = true := decide_eq_true c58
                            clear c58
                            by_cases c59 : 1 ≤ (t420.length : Int)
                            · rw [if_pos c59] at H
                              have c59b0 := eq_true c59
                              have c59b1 : decide (1 ≤ (t420.length : Int)) = true := decide_eq_true c59
                              clear c59
                              obtain ⟨y448, hy448⟩ : ∃ y_ : List Int, y_ = (t420.take 1) := ⟨_, rfl⟩
                              replace H : (if 1 ≤ (t424.length : Int) then ((casketref01_Same.f k3 y448 (t424.take 1)).bind fun t456 => (if t456 = true then (if 0 ≤ (wrap64 (1 + (wrap64 (8 * x12_3)))) then (if (wrap64 (1 + (wrap64 (8 * x12_3)))) ≤ (t424.length : Int) then ((casketref01_Same.f k3 (t420.drop ((wrap64 (1 + (wrap64 (8 * x12_3)))) : Int).toNat) (t424.drop ((wrap64 (1 + (wrap64 (8 * x12_3)))) : Int).toNat)).bind fun t465 => (some t465)) else (none)) else (none)) else (some false))) else (none)) = some r := by first | (rw [hy448]; with_reducible exact H) | (have H2_ := (Option.bind_some _ _).symm.trans H; rw [hy448]; with_reducible exact H2_) | (have H2_ := (Option.bind_some _ _).symm.trans H; with_reducible exact H2_) | with_reducible exact H | (rw [hy448]; exact H) | exact H
                              have Ny448 := Aside0.mk hy448
                              clear hy448
                              by_cases c60 : 1 ≤ (t424.length : Int)
                              · rw [if_pos c60] at H
                                have c60b0 := eq_true c60
                                have c60b1 : decide (1 ≤ (t424.length : Int)) = true := decide_eq_true c60
                                clear c60
                                obtain ⟨y452, hy452⟩ : ∃ y_ : List Int, y_ = (t424.take 1) := ⟨_, rfl⟩
                                replace H : ((casketref01_Same.f k3 y448 y452).bind fun t456 => (if t456 = true then (if 0 ≤ (wrap64 (1 + (wrap64 (8 * x12_3)))) then (if (wrap64 (1 + (wrap64 (8 * x12_3)))) ≤ (t424.length : Int) then ((casketref01_Same.f k3 (t420.drop ((wrap64 (1 + (wrap64 (8 * x12_3)))) : Int).toNat) (t424.drop ((wrap64 (1 + (wrap64 (8 * x12_3)))) : Int).toNat)).bind fun t465 => (some t465)) else (none)) else (none)) else (some false))) = some r := by first | (rw [hy452]; with_reducible exact H) | (have H2_ := (Option.bind_some _ _).symm.trans H; rw [hy452]; with_reducible exact H2_) | (have H2_ := (Option.bind_some _ _).symm.trans H; with_reducible exact H2_) | with_reducible exact H | (rw [hy452]; exact H) | exact H
                                have Ny452 := Aside0.mk hy452
                                clear hy452
                                replace H := Option.bind_eq_some_iff.mp H
                                obtain ⟨t456, A610, H⟩ := H
                                replace H : (if t456 = true then (if 0 ≤ (wrap64 (1 + (wrap64 (8 * x12_3)))) then (if (wrap64 (1 + (wrap64 (8 * x12_3)))) ≤ (t424.length : Int) then ((casketref01_Same.f k3 (t420.drop ((wrap64 (1 + (wrap64 (8 * x12_3)))) : Int).toNat) (t424.drop ((wrap64 (1 + (wrap64 (8 * x12_3)))) : Int).toNat)).bind fun t465 => (some t465)) else (none)) else (none)) else (some false)) = some r := H
                                have A61 := Aside0.mk A610
                                clear A610
                                by_cases c62 : t456 = true
                                · subst c62
                                  have H1 : (if 0 ≤ (wrap64 (1 + (wrap64 (8 * x12_3)))) then (if (wrap64 (1 + (wrap64 (8 * x12_3)))) ≤ (t424.length : Int) then ((casketref01_Same.f k3 (t420.drop ((wrap64 (1 + (wrap64 (8 * x12_3)))) : Int).toNat) (t424.drop ((wrap64 (1 + (wrap64 (8 * x12_3)))) : Int).toNat)).bind fun t465 => (some t465)) else (none)) else (none)) = some r := by rw [if_pos rfl] at H; exact H
                                  clear H
                                  have H := H1
                                  clear H1
                                  obtain ⟨ji63, hji63⟩ : ∃ j_ : Int, (wrap64 (1 + (wrap64 (8 * x12_3)))) = j_ := ⟨_, rfl⟩
                                  replace H : (if 0 ≤ (ji63) then (if (ji63) ≤ (t424.length : Int) then ((casketref01_Same.f k3 (t420.drop ((ji63) : Int).toNat) (t424.drop ((ji63) : Int).toNat)).bind fun t465 => (some t465)) else (none)) else (none)) = some r := by first | (rw [hji63] at H; exact H) | (simp only [hji63] at H ⊢; exact H)
                                  (try rw [hji63] at c58b0)
                                  (try rw [hji63] at A61)
                                  have hji63w : (IntKind.i64.wrap (1 + (wrap64 (8 * x12_3)))) = ji63 := (i64_w _).trans hji63
                                  by_cases c64 : 0 ≤ (ji63)
                                  · rw [if_pos c64] at H
                                    have c64b0 := eq_true c64
                                    have c64b1 : decide (0 ≤ (ji63)) = true := decide_eq_true c64
                                    clear c64
                                    have c65b0 := eq_true (of_decide_eq_true (by first | (with_reducible assumption) | assumption) : (ji63) ≤ (t420.length : Int))
                                    obtain ⟨y457, hy457⟩ : ∃ y_ : List Int, y_ = (t420.drop ((ji63) : Int).toNat) := ⟨_, rfl⟩
                                    replace H : (if (ji63) ≤ (t424.length : Int) then ((casketref01_Same.f k3 y457 (t424.drop ((ji63) : Int).toNat)).bind fun t465 => (some t465)) else (none)) = some r := by first | (rw [hy457]; with_reducible exact H) | (have H2_ := (Option.bind_some _ _).symm.trans H; rw [hy457]; with_reducible exact H2_) | (have H2_ := (Option.bind_some _ _).symm.trans H; with_reducible exact H2_) | with_reducible exact H | (rw [hy457]; exact H) | exact H
                                    have Ny457 := Aside0.mk hy457
                                    clear hy457
                                    have c66b0 := eq_true (of_decide_eq_true (by first | (with_reducible assumption) | assumption) : 0 ≤ (ji63))
                                    by_cases c67 : (ji63) ≤ (t424.length : Int)
                                    · rw [if_pos c67] at H
                                      have c67b0 := eq_true c67
                                      have c67b1 : decide ((ji63) ≤ (t424.length : Int)) = true := decide_eq_true c67
                                      clear c67
                                      obtain ⟨y461, hy461⟩ : ∃ y_ : List Int, y_ = (t424.drop ((ji63) : Int).toNat) := ⟨_, rfl⟩
                                      replace H : ((casketref01_Same.f k3 y457 y461).bind fun t465 => (some t465)) = some r := by first | (rw [hy461]; with_reducible exact H) | (have H2_ := (Option.bind_some _ _).symm.trans H; rw [hy461]; with_reducible exact H2_) | (have H2_ := (Option.bind_some _ _).symm.trans H; with_reducible exact H2_) | with_reducible exact H | (rw [hy461]; exact H) | exact H
                                      have Ny461 := Aside0.mk hy461
                                      clear hy461
                                      replace H := Option.bind_eq_some_iff.mp H
                                      obtain ⟨t465, A680, H⟩ := H
                                      replace H : (some t465) = some r := H
                                      have A68 := Aside0.mk A680
                                      clear A680
                                      obtain rfl := Option.some.inj H
                                      obtain ⟨Ao69, co69, eo69⟩ := Kd.R_slice HO_8.out
                                      subst eo69
                                      have q70 : (1 : Int) ≤ ((t420.length : Int) : Int) := of_decide_eq_true (by first | (with_reducible assumption) | assumption)
                                      obtain ⟨i070, hi070, _, hsz70, _⟩ := info_parts info5
                                      have hroom70 : t420.length ≤ co69 := (Kd.R_reads' HO_8.out).2.1
                                      have hC70 : Kd.C (Kd.int .u8) _ Ao69 t420.length t420 := (Kd.R_reads' HO_8.out).2.2
                                      have hcut70 := cut_to (P := Try.prog) 24 5 .i64 Try.underlying24 hi070 Ao69 t420.length co69 1 (by omega) q70 hroom70
                                      have hr70 := Kd.C_take (m := 1) hC70 (by omega)
                                      have hy70 : y448.length = (1 : Int).toNat := (by rw [Ny448.out, List.length_take]; omega)
                                      rw [← Ny448.out] at hr70
                                      rw [← hy70] at hcut70
                                      have HR451 := Aside0.mk hr70
                                      have HC451 := Aside0.mk (show y448.length ≤ co69 from by omega)
                                      clear hr70 hC70 hroom70 hi070 hsz70
                                      have KY70 := Aside0.mk hy70
                                      clear hy70
                                      have KL70 := Aside0.mk (show 1 ≤ t420.length from by omega)
                                      replace q70 := eq_true q70
                                      obtain ⟨Ao72, co72, eo72⟩ := Kd.R_slice HO_10.out
                                      subst eo72
                                      have q71 : (1 : Int) ≤ ((t424.length : Int) : Int) := of_decide_eq_true (by first | (with_reducible assumption) | assumption)
                                      obtain ⟨i071, hi071, _, hsz71, _⟩ := info_parts info5
                                      have hroom71 : t424.length ≤ co72 := (Kd.R_reads' HO_10.out).2.1
                                      have hC71 : Kd.C (Kd.int .u8) _ Ao72 t424.length t424 := (Kd.R_reads' HO_10.out).2.2
                                      have hcut71 := cut_to (P := Try.prog) 24 5 .i64 Try.underlying24 hi071 Ao72 t424.length co72 1 (by omega) q71 hroom71
                                      have hr71 := Kd.C_take (m := 1) hC71 (by omega)
                                      have hy71 : y452.length = (1 : Int).toNat := (by rw [Ny452.out, List.length_take]; omega)
                                      rw [← Ny452.out] at hr71
                                      rw [← hy71] at hcut71
                                      have HR455 := Aside0.mk hr71
                                      have HC455 := Aside0.mk (show y452.length ≤ co72 from by omega)
                                      clear hr71 hC71 hroom71 hi071 hsz71
                                      have KY71 := Aside0.mk hy71
                                      clear hy71
                                      have KL71 := Aside0.mk (show 1 ≤ t424.length from by omega)
                                      replace q71 := eq_true q71
                                      go_wp2_with (first | (go_at_call 11; (with_reducible refine (casketref01_Same.calls k3 _ _ y448 _ _ y452 true _ ?side1 ?side2 ?side3 ?side4 A61.out).mono ?_); (case side1 => repeat (first | exact (by repeat (first | (with_reducible exact HR451.out) | (with_reducible refine Kd.C_alloc ?_ _) | (with_reducible refine Kd.C_drewN ?_ _) | (with_reducible refine Kd.C_drew ?_) | exact HR451.out)) | (with_reducible refine Kd.C_alloc ?_ _) | (with_reducible refine Kd.C_drewN ?_ _) | (with_reducible refine Kd.C_drew ?_))); (case side2 => exact HC451.out); (case side3 => repeat (first | exact (by repeat (first | (with_reducible exact HR455.out) | (with_reducible refine Kd.C_alloc ?_ _) | (with_reducible refine Kd.C_drewN ?_ _) | (with_reducible refine Kd.C_drew ?_) | exact HR455.out)) | (with_reducible refine Kd.C_alloc ?_ _) | (with_reducible refine Kd.C_drewN ?_ _) | (with_reducible refine Kd.C_drew ?_))); (case side4 => exact HC455.out); rintro e w' ⟨rfl, ⟨nd, rfl⟩⟩; (try first | exact ⟨rfl, _, World.drewN_drewN _ _ _⟩ | exact ⟨rfl, _, Eq.trans (World.drewN_drewN _ _ _) (congrArg (World.drewN _) (Nat.add_assoc _ _ _))⟩); have q73 : ((ji63) : Int) ≤ ((t420.length : Int) : Int) := of_decide_eq_true (by first | (with_reducible assumption) | assumption); obtain ⟨i073, hi073, _, hsz73, _⟩ := info_parts info5; have hroom73 : t420.length ≤ co69 := (Kd.R_reads' HO_8.out).2.1; have hC73 : Kd.C (Kd.int .u8) _ Ao69 t420.length t420 := (Kd.R_reads' HO_8.out).2.2; have q073 : (0 : Int) ≤ ((ji63) : Int) := of_decide_eq_true (by first | (with_reducible assumption) | assumption); have hcut73 := cut_from (P := Try.prog) 24 5 .i64 Try.underlying24 hi073 1 hsz73 Ao69 t420.length co69 (ji63) q073 q73; have hr73 := Kd.C_drop (m := ((ji63) : Int).toNat) (c := co69) hC73 (by omega) hroom73; obtain ⟨A73, hA73⟩ : ∃ A1, A1 = (if co69 = ((ji63) : Int).toNat then Ao69 else (Ao69 : Option Addr).map (·.add (((ji63) : Int).toNat * 1))) := ⟨_, rfl⟩; obtain ⟨c73, hc73⟩ : ∃ c1, c1 = co69 - ((ji63) : Int).toNat := ⟨_, rfl⟩; have hy73 : y457.length = t420.length - ((ji63) : Int).toNat := (by rw [Ny457.out, List.length_drop] <;> omega); rw [show (t420).drop ((ji63) : Int).toNat = y457 from Ny457.out.symm] at hr73; replace hr73 : Kd.C (Kd.int .u8) _ A73 y457.length y457 := (by rw [hA73]; exact hr73); rw [← hy73, ← hA73, ← hc73] at hcut73; have HR460 := Aside0.mk hr73; have HC460 := Aside0.mk (show y457.length ≤ c73 from by rw [hy73, hc73]; exact Nat.sub_le_sub_right hroom73 _); clear hr73 hC73 hroom73 hi073 hsz73 hc73; have KY73 := Aside0.mk hy73; have KA73 := Aside0.mk hA73; clear hy73 hA73; have KL73 := Aside0.mk (show ((ji63) : Int).toNat ≤ t420.length from by omega); replace q73 := eq_true q73; have q74 : ((ji63) : Int) ≤ ((t424.length : Int) : Int) := of_decide_eq_true (by first | (with_reducible assumption) | assumption); obtain ⟨i074, hi074, _, hsz74, _⟩ := info_parts info5; have hroom74 : t424.length ≤ co72 := (Kd.R_reads' HO_10.out).2.1; have hC74 : Kd.C (Kd.int .u8) _ Ao72 t424.length t424 := (Kd.R_reads' HO_10.out).2.2; have q074 : (0 : Int) ≤ ((ji63) : Int) := of_decide_eq_true (by first | (with_reducible assumption) | assumption); have hcut74 := cut_from (P := Try.prog) 24 5 .i64 Try.underlying24 hi074 1 hsz74 Ao72 t424.length co72 (ji63) q074 q74; have hr74 := Kd.C_drop (m := ((ji63) : Int).toNat) (c := co72) hC74 (by omega) hroom74; obtain ⟨A74, hA74⟩ : ∃ A1, A1 = (if co72 = ((ji63) : Int).toNat then Ao72 else (Ao72 : Option Addr).map (·.add (((ji63) : Int).toNat * 1))) := ⟨_, rfl⟩; obtain ⟨c74, hc74⟩ : ∃ c1, c1 = co72 - ((ji63) : Int).toNat := ⟨_, rfl⟩; have hy74 : y461.length = t424.length - ((ji63) : Int).toNat := (by rw [Ny461.out, List.length_drop] <;> omega); rw [show (t424).drop ((ji63) : Int).toNat = y461 from Ny461.out.symm] at hr74; replace hr74 : Kd.C (Kd.int .u8) _ A74 y461.length y461 := (by rw [hA74]; exact hr74); rw [← hy74, ← hA74, ← hc74] at hcut74; have HR464 := Aside0.mk hr74; have HC464 := Aside0.mk (show y461.length ≤ c74 from by rw [hy74, hc74]; exact Nat.sub_le_sub_right hroom74 _); clear hr74 hC74 hroom74 hi074 hsz74 hc74; have KY74 := Aside0.mk hy74; have KA74 := Aside0.mk hA74; clear hy74 hA74; have KL74 := Aside0.mk (show ((ji63) : Int).toNat ≤ t424.length from by omega); replace q74 := eq_true q74) | (go_at_call 11; (with_reducible refine (casketref01_Same.calls k3 _ _ y457 _ _ y461 t465 _ ?side1 ?side2 ?side3 ?side4 A68.out).mono ?_); (case side1 => repeat (first | exact (by repeat (first | (with_reducible exact HR460.out) | (with_reducible refine Kd.C_alloc ?_ _) | (with_reducible refine Kd.C_drewN ?_ _) | (with_reducible refine Kd.C_drew ?_) | exact HR460.out)) | (with_reducible refine Kd.C_alloc ?_ _) | (with_reducible refine Kd.C_drewN ?_ _) | (with_reducible refine Kd.C_drew ?_))); (case side2 => exact HC460.out); (case side3 => repeat (first | exact (by repeat (first | (with_reducible exact HR464.out) | (with_reducible refine Kd.C_alloc ?_ _) | (with_reducible refine Kd.C_drewN ?_ _) | (with_reducible refine Kd.C_drew ?_) | exact HR464.out)) | (with_reducible refine Kd.C_alloc ?_ _) | (with_reducible refine Kd.C_drewN ?_ _) | (with_reducible refine Kd.C_drew ?_))); (case side4 => exact HC464.out); rintro e w' ⟨rfl, ⟨nd, rfl⟩⟩; (try first | exact ⟨rfl, _, World.drewN_drewN _ _ _⟩ | exact ⟨rfl, _, Eq.trans (World.drewN_drewN _ _ _) (congrArg (World.drewN _) (Nat.add_assoc _ _ _))⟩)))
                                      repeat (go_quiet (first | (go_at_call 11; (with_reducible refine (casketref01_Same.calls k3 _ _ y448 _ _ y452 true _ ?side1 ?side2 ?side3 ?side4 A61.out).mono ?_); (case side1 => repeat (first | exact (by repeat (first | (with_reducible exact HR451.out) | (with_reducible refine Kd.C_alloc ?_ _) | (with_reducible refine Kd.C_drewN ?_ _) | (with_reducible refine Kd.C_drew ?_) | exact HR451.out)) | (with_reducible refine Kd.C_alloc ?_ _) | (with_reducible refine Kd.C_drewN ?_ _) | (with_reducible refine Kd.C_drew ?_))); (case side2 => exact HC451.out); (case side3 => repeat (first | exact (by repeat (first | (with_reducible exact HR455.out) | (with_reducible refine Kd.C_alloc ?_ _) | (with_reducible refine Kd.C_drewN ?_ _) | (with_reducible refine Kd.C_drew ?_) | exact HR455.out)) | (with_reducible refine Kd.C_alloc ?_ _) | (with_reducible refine Kd.C_drewN ?_ _) | (with_reducible refine Kd.C_drew ?_))); (case side4 => exact HC455.out); rintro e w' ⟨rfl, ⟨nd, rfl⟩⟩; (try first | exact ⟨rfl, _, World.drewN_drewN _ _ _⟩ | exact ⟨rfl, _, Eq.trans (World.drewN_drewN _ _ _) (congrArg (World.drewN _) (Nat.add_assoc _ _ _))⟩); have q73 : ((ji63) : Int) ≤ ((t420.length : Int) : Int) := of_decide_eq_true (by first | (with_reducible assumption) | assumption); obtain ⟨i073, hi073, _, hsz73, _⟩ := info_parts info5; have hroom73 : t420.length ≤ co69 := (Kd.R_reads' HO_8.out).2.1; have hC73 : Kd.C (Kd.int .u8) _ Ao69 t420.length t420 := (Kd.R_reads' HO_8.out).2.2; have q073 : (0 : Int) ≤ ((ji63) : Int) := of_decide_eq_true (by first | (with_reducible assumption) | assumption); have hcut73 := cut_from (P := Try.prog) 24 5 .i64 Try.underlying24 hi073 1 hsz73 Ao69 t420.length co69 (ji63) q073 q73; have hr73 := Kd.C_drop (m := ((ji63) : Int).toNat) (c := co69) hC73 (by omega) hroom73; obtain ⟨A73, hA73⟩ : ∃ A1, A1 = (if co69 = ((ji63) : Int).toNat then Ao69 else (Ao69 : Option Addr).map (·.add (((ji63) : Int).toNat * 1))) := ⟨_, rfl⟩; obtain ⟨c73, hc73⟩ : ∃ c1, c1 = co69 - ((ji63) : Int).toNat := ⟨_, rfl⟩; have hy73 : y457.length = t420.length - ((ji63) : Int).toNat := (by rw [Ny457.out, List.length_drop] <;> omega); rw [show (t420).drop ((ji63) : Int).toNat = y457 from Ny457.out.symm] at hr73; replace hr73 : Kd.C (Kd.int .u8) _ A73 y457.length y457 := (by rw [hA73]; exact hr73); rw [← hy73, ← hA73, ← hc73] at hcut73; have HR460 := Aside0.mk hr73; have HC460 := Aside0.mk (show y457.length ≤ c73 from by rw [hy73, hc73]; exact Nat.sub_le_sub_right hroom73 _); clear hr73 hC73 hroom73 hi073 hsz73 hc73; have KY73 := Aside0.mk hy73; have KA73 := Aside0.mk hA73; clear hy73 hA73; have KL73 := Aside0.mk (show ((ji63) : Int).toNat ≤ t420.length from by omega); replace q73 := eq_true q73; have q74 : ((ji63) : Int) ≤ ((t424.length : Int) : Int) := of_decide_eq_true (by first | (with_reducible assumption) | assumption); obtain ⟨i074, hi074, _, hsz74, _⟩ := info_parts info5; have hroom74 : t424.length ≤ co72 := (Kd.R_reads' HO_10.out).2.1; have hC74 : Kd.C (Kd.int .u8) _ Ao72 t424.length t424 := (Kd.R_reads' HO_10.out).2.2; have q074 : (0 : Int) ≤ ((ji63) : Int) := of_decide_eq_true (by first | (with_reducible assumption) | assumption); have hcut74 := cut_from (P := Try.prog) 24 5 .i64 Try.underlying24 hi074 1 hsz74 Ao72 t424.length co72 (ji63) q074 q74; have hr74 := Kd.C_drop (m := ((ji63) : Int).toNat) (c := co72) hC74 (by omega) hroom74; obtain ⟨A74, hA74⟩ : ∃ A1, A1 = (if co72 = ((ji63) : Int).toNat then Ao72 else (Ao72 : Option Addr).map (·.add (((ji63) : Int).toNat * 1))) := ⟨_, rfl⟩; obtain ⟨c74, hc74⟩ : ∃ c1, c1 = co72 - ((ji63) : Int).toNat := ⟨_, rfl⟩; have hy74 : y461.length = t424.length - ((ji63) : Int).toNat := (by rw [Ny461.out, List.length_drop] <;> omega); rw [show (t424).drop ((ji63) : Int).toNat = y461 from Ny461.out.symm] at hr74; replace hr74 : Kd.C (Kd.int .u8) _ A74 y461.length y461 := (by rw [hA74]; exact hr74); rw [← hy74, ← hA74, ← hc74] at hcut74; have HR464 := Aside0.mk hr74; have HC464 := Aside0.mk (show y461.length ≤ c74 from by rw [hy74, hc74]; exact Nat.sub_le_sub_right hroom74 _); clear hr74 hC74 hroom74 hi074 hsz74 hc74; have KY74 := Aside0.mk hy74; have KA74 := Aside0.mk hA74; clear hy74 hA74; have KL74 := Aside0.mk (show ((ji63) : Int).toNat ≤ t424.length from by omega); replace q74 := eq_true q74) | (go_at_call 11; (with_reducible refine (casketref01_Same.calls k3 _ _ y457 _ _ y461 t465 _ ?side1 ?side2 ?side3 ?side4 A68.out).mono ?_); (case side1 => repeat (first | exact (by repeat (first | (with_reducible exact HR460.out) | (with_reducible refine Kd.C_alloc ?_ _) | (with_reducible refine Kd.C_drewN ?_ _) | (with_reducible refine Kd.C_drew ?_) | exact HR460.out)) | (with_reducible refine Kd.C_alloc ?_ _) | (with_reducible refine Kd.C_drewN ?_ _) | (with_reducible refine Kd.C_drew ?_))); (case side2 => exact HC460.out); (case side3 => repeat (first | exact (by repeat (first | (with_reducible exact HR464.out) | (with_reducible refine Kd.C_alloc ?_ _) | (with_reducible refine Kd.C_drewN ?_ _) | (with_reducible refine Kd.C_drew ?_) | exact HR464.out)) | (with_reducible refine Kd.C_alloc ?_ _) | (with_reducible refine Kd.C_drewN ?_ _) | (with_reducible refine Kd.C_drew ?_))); (case side4 => exact HC464.out); rintro e w' ⟨rfl, ⟨nd, rfl⟩⟩; (try first | exact ⟨rfl, _, World.drewN_drewN _ _ _⟩ | exact ⟨rfl, _, Eq.trans (World.drewN_drewN _ _ _) (congrArg (World.drewN _) (Nat.add_assoc _ _ _))⟩))); try go_wp2_with (first | (go_at_call 11; (with_reducible refine (casketref01_Same.calls k3 _ _ y448 _ _ y452 true _ ?side1 ?side2 ?side3 ?side4 A61.out).mono ?_); (case side1 => repeat (first | exact (by repeat (first | (with_reducible exact HR451.out) | (with_reducible refine Kd.C_alloc ?_ _) | (with_reducible refine Kd.C_drewN ?_ _) | (with_reducible refine Kd.C_drew ?_) | exact HR451.out)) | (with_reducible refine Kd.C_alloc ?_ _) | (with_reducible refine Kd.C_drewN ?_ _) | (with_reducible refine Kd.C_drew ?_))); (case side2 => exact HC451.out); (case side3 => repeat (first | exact (by repeat (first | (with_reducible exact HR455.out) | (with_reducible refine Kd.C_alloc ?_ _) | (with_reducible refine Kd.C_drewN ?_ _) | (with_reducible refine Kd.C_drew ?_) | exact HR455.out)) | (with_reducible refine Kd.C_alloc ?_ _) | (with_reducible refine Kd.C_drewN ?_ _) | (with_reducible refine Kd.C_drew ?_))); (case side4 => exact HC455.out); rintro e w' ⟨rfl, ⟨nd, rfl⟩⟩; (try first | exact ⟨rfl, _, World.drewN_drewN _ _ _⟩ | exact ⟨rfl, _, Eq.trans (World.drewN_drewN _ _ _) (congrArg (World.drewN _) (Nat.add_assoc _ _ _))⟩); have q73 : ((ji63) : Int) ≤ ((t420.length : Int) : Int) := of_decide_eq_true (by first | (with_reducible assumption) | assumption); obtain ⟨i073, hi073, _, hsz73, _⟩ := info_parts info5; have hroom73 : t420.length ≤ co69 := (Kd.R_reads' HO_8.out).2.1; have hC73 : Kd.C (Kd.int .u8) _ Ao69 t420.length t420 := (Kd.R_reads' HO_8.out).2.2; have q073 : (0 : Int) ≤ ((ji63) : Int) := of_decide_eq_true (by first | (with_reducible assumption) | assumption); have hcut73 := cut_from (P := Try.prog) 24 5 .i64 Try.underlying24 hi073 1 hsz73 Ao69 t420.length co69 (ji63) q073 q73; have hr73 := Kd.C_drop (m := ((ji63) : Int).toNat) (c := co69) hC73 (by omega) hroom73; obtain ⟨A73, hA73⟩ : ∃ A1, A1 = (if co69 = ((ji63) : Int).toNat then Ao69 else (Ao69 : Option Addr).map (·.add (((ji63) : Int).toNat * 1))) := ⟨_, rfl⟩; obtain ⟨c73, hc73⟩ : ∃ c1, c1 = co69 - ((ji63) : Int).toNat := ⟨_, rfl⟩; have hy73 : y457.length = t420.length - ((ji63) : Int).toNat := (by rw [Ny457.out, List.length_drop] <;> omega); rw [show (t420).drop ((ji63) : Int).toNat = y457 from Ny457.out.symm] at hr73; replace hr73 : Kd.C (Kd.int .u8) _ A73 y457.length y457 := (by rw [hA73]; exact hr73); rw [← hy73, ← hA73, ← hc73] at hcut73; have HR460 := Aside0.mk hr73; have HC460 := Aside0.mk (show y457.length ≤ c73 from by rw [hy73, hc73]; exact Nat.sub_le_sub_right hroom73 _); clear hr73 hC73 hroom73 hi073 hsz73 hc73; have KY73 := Aside0.mk hy73; have KA73 := Aside0.mk hA73; clear hy73 hA73; have KL73 := Aside0.mk (show ((ji63) : Int).toNat ≤ t420.length from by omega); replace q73 := eq_true q73; have q74 : ((ji63) : Int) ≤ ((t424.length : Int) : Int) := of_decide_eq_true (by first | (with_reducible assumption) | assumption); obtain ⟨i074, hi074, _, hsz74, _⟩ := info_parts info5; have hroom74 : t424.length ≤ co72 := (Kd.R_reads' HO_10.out).2.1; have hC74 : Kd.C (Kd.int .u8) _ Ao72 t424.length t424 := (Kd.R_reads' HO_10.out).2.2; have q074 : (0 : Int) ≤ ((ji63) : Int) := of_decide_eq_true (by first | (with_reducible assumption) | assumption); have hcut74 := cut_from (P := Try.prog) 24 5 .i64 Try.underlying24 hi074 1 hsz74 Ao72 t424.length co72 (ji63) q074 q74; have hr74 := Kd.C_drop (m := ((ji63) : Int).toNat) (c := co72) hC74 (by omega) hroom74; obtain ⟨A74, hA74⟩ : ∃ A1, A1 = (if co72 = ((ji63) : Int).toNat then Ao72 else (Ao72 : Option Addr).map (·.add (((ji63) : Int).toNat * 1))) := ⟨_, rfl⟩; obtain ⟨c74, hc74⟩ : ∃ c1, c1 = co72 - ((ji63) : Int).toNat := ⟨_, rfl⟩; have hy74 : y461.length = t424.length - ((ji63) : Int).toNat := (by rw [Ny461.out, List.length_drop] <;> omega); rw [show (t424).drop ((ji63) : Int).toNat = y461 from Ny461.out.symm] at hr74; replace hr74 : Kd.C (Kd.int .u8) _ A74 y461.length y461 := (by rw [hA74]; exact hr74); rw [← hy74, ← hA74, ← hc74] at hcut74; have HR464 := Aside0.mk hr74; have HC464 := Aside0.mk (show y461.length ≤ c74 from by rw [hy74, hc74]; exact Nat.sub_le_sub_right hroom74 _); clear hr74 hC74 hroom74 hi074 hsz74 hc74; have KY74 := Aside0.mk hy74; have KA74 := Aside0.mk hA74; clear hy74 hA74; have KL74 := Aside0.mk (show ((ji63) : Int).toNat ≤ t424.length from by omega); replace q74 := eq_true q74) | (go_at_call 11; (with_reducible refine (casketref01_Same.calls k3 _ _ y457 _ _ y461 t465 _ ?side1 ?side2 ?side3 ?side4 A68.out).mono ?_); (case side1 => repeat (first | exact (by repeat (first | (with_reducible exact HR460.out) | (with_reducible refine Kd.C_alloc ?_ _) | (with_reducible refine Kd.C_drewN ?_ _) | (with_reducible refine Kd.C_drew ?_) | exact HR460.out)) | (with_reducible refine Kd.C_alloc ?_ _) | (with_reducible refine Kd.C_drewN ?_ _) | (with_reducible refine Kd.C_drew ?_))); (case side2 => exact HC460.out); (case side3 => repeat (first | exact (by repeat (first | (with_reducible exact HR464.out) | (with_reducible refine Kd.C_alloc ?_ _) | (with_reducible refine Kd.C_drewN ?_ _) | (with_reducible refine Kd.C_drew ?_) | exact HR464.out)) | (with_reducible refine Kd.C_alloc ?_ _) | (with_reducible refine Kd.C_drewN ?_ _) | (with_reducible refine Kd.C_drew ?_))); (case side4 => exact HC464.out); rintro e w' ⟨rfl, ⟨nd, rfl⟩⟩; (try first | exact ⟨rfl, _, World.drewN_drewN _ _ _⟩ | exact ⟨rfl, _, Eq.trans (World.drewN_drewN _ _ _) (congrArg (World.drewN _) (Nat.add_assoc _ _ _))⟩))))
                                      go_ret
                                      exact ⟨by first | rfl | (simp [errW_none, errW_some] <;> rfl) | (simp only [← hji63]; first | rfl | (simp [errW_none, errW_some] <;> rfl)) | (simp [*, errW_none, errW_some] <;> rfl), by repeat (first | (with_reducible first | exact HB.out | apply below_alloc | apply pw_below_drewN | apply below_drew1) | exact HB.out)⟩
                                    · rw [if_neg c67] at H
                                      exact absurd H (by simp)
                                  · rw [if_neg c64] at H
                                    exact absurd H (by simp)
                                · replace c62 := Bool.eq_false_iff.mpr c62
                                  subst c62
                                  have H1 : (some false) = some r := by rw [if_neg (show ¬ (false = true) by decide)] at H; exact H
                                  clear H
                                  have H := H1
                                  clear H1
                                  obtain rfl := Option.some.inj H
                                  obtain ⟨Ao75, co75, eo75⟩ := Kd.R_slice HO_8.out
                                  subst eo75
                                  have q76 : (1 : Int) ≤ ((t420.length : Int) : Int) := of_decide_eq_true (by first | (with_reducible assumption) | assumption)
                                  obtain ⟨i076, hi076, _, hsz76, _⟩ := info_parts info5
                                  have hroom76 : t420.length ≤ co75 := (Kd.R_reads' HO_8.out).2.1
                                  have hC76 : Kd.C (Kd.int .u8) _ Ao75 t420.length t420 := (Kd.R_reads' HO_8.out).2.2
                                  have hcut76 := cut_to (P := Try.prog) 24 5 .i64 Try.underlying24 hi076 Ao75 t420.length co75 1 (by omega) q76 hroom76
                                  have hr76 := Kd.C_take (m := 1) hC76 (by omega)
                                  have hy76 : y448.length = (1 : Int).toNat := (by rw [Ny448.out, List.length_take]; omega)
                                  rw [← Ny448.out] at hr76
                                  rw [← hy76] at hcut76
                                  have HR451 := Aside0.mk hr76
                                  have HC451 := Aside0.mk (show y448.length ≤ co75 from by omega)
                                  clear hr76 hC76 hroom76 hi076 hsz76
                                  have KY76 := Aside0.mk hy76
                                  clear hy76
                                  have KL76 := Aside0.mk (show 1 ≤ t420.length from by omega)
                                  replace q76 := eq_true q76
                                  obtain ⟨Ao78, co78, eo78⟩ := Kd.R_slice HO_10.out
                                  subst eo78
                                  have q77 : (1 : Int) ≤ ((t424.length : Int) : Int) := of_decide_eq_true (by first | (with_reducible assumption) | assumption)
                                  obtain ⟨i077, hi077, _, hsz77, _⟩ := info_parts info5
                                  have hroom77 : t424.length ≤ co78 := (Kd.R_reads' HO_10.out).2.1
                                  have hC77 : Kd.C (Kd.int .u8) _ Ao78 t424.length t424 := (Kd.R_reads' HO_10.out).2.2
                                  have hcut77 := cut_to (P := Try.prog) 24 5 .i64 Try.underlying24 hi077 Ao78 t424.length co78 1 (by omega) q77 hroom77
                                  have hr77 := Kd.C_take (m := 1) hC77 (by omega)
                                  have hy77 : y452.length = (1 : Int).toNat := (by rw [Ny452.out, List.length_take]; omega)
                                  rw [← Ny452.out] at hr77
                                  rw [← hy77] at hcut77
                                  have HR455 := Aside0.mk hr77
                                  have HC455 := Aside0.mk (show y452.length ≤ co78 from by omega)
                                  clear hr77 hC77 hroom77 hi077 hsz77
                                  have KY77 := Aside0.mk hy77
                                  clear hy77
                                  have KL77 := Aside0.mk (show 1 ≤ t424.length from by omega)
                                  replace q77 := eq_true q77
                                  go_wp2_with (first | (go_at_call 11; (with_reducible refine (casketref01_Same.calls k3 _ _ y448 _ _ y452 false _ ?side1 ?side2 ?side3 ?side4 A61.out).mono ?_); (case side1 => repeat (first | exact (by repeat (first | (with_reducible exact HR451.out) | (with_reducible refine Kd.C_alloc ?_ _) | (with_reducible refine Kd.C_drewN ?_ _) | (with_reducible refine Kd.C_drew ?_) | exact HR451.out)) | (with_reducible refine Kd.C_alloc ?_ _) | (with_reducible refine Kd.C_drewN ?_ _) | (with_reducible refine Kd.C_drew ?_))); (case side2 => exact HC451.out); (case side3 => repeat (first | exact (by repeat (first | (with_reducible exact HR455.out) | (with_reducible refine Kd.C_alloc ?_ _) | (with_reducible refine Kd.C_drewN ?_ _) | (with_reducible refine Kd.C_drew ?_) | exact HR455.out)) | (with_reducible refine Kd.C_alloc ?_ _) | (with_reducible refine Kd.C_drewN ?_ _) | (with_reducible refine Kd.C_drew ?_))); (case side4 => exact HC455.out); rintro e w' ⟨rfl, ⟨nd, rfl⟩⟩; (try first | exact ⟨rfl, _, World.drewN_drewN _ _ _⟩ | exact ⟨rfl, _, Eq.trans (World.drewN_drewN _ _ _) (congrArg (World.drewN _) (Nat.add_assoc _ _ _))⟩)))
                                  repeat (go_quiet (first | (go_at_call 11; (with_reducible refine (casketref01_Same.calls k3 _ _ y448 _ _ y452 false _ ?side1 ?side2 ?side3 ?side4 A61.out).mono ?_); (case side1 => repeat (first | exact (by repeat (first | (with_reducible exact HR451.out) | (with_reducible refine Kd.C_alloc ?_ _) | (with_reducible refine Kd.C_drewN ?_ _) | (with_reducible refine Kd.C_drew ?_) | exact HR451.out)) | (with_reducible refine Kd.C_alloc ?_ _) | (with_reducible refine Kd.C_drewN ?_ _) | (with_reducible refine Kd.C_drew ?_))); (case side2 => exact HC451.out); (case side3 => repeat (first | exact (by repeat (first | (with_reducible exact HR455.out) | (with_reducible refine Kd.C_alloc ?_ _) | (with_reducible refine Kd.C_drewN ?_ _) | (with_reducible refine Kd.C_drew ?_) | exact HR455.out)) | (with_reducible refine Kd.C_alloc ?_ _) | (with_reducible refine Kd.C_drewN ?_ _) | (with_reducible refine Kd.C_drew ?_))); (case side4 => exact HC455.out); rintro e w' ⟨rfl, ⟨nd, rfl⟩⟩; (try first | exact ⟨rfl, _, World.drewN_drewN _ _ _⟩ | exact ⟨rfl, _, Eq.trans (World.drewN_drewN _ _ _) (congrArg (World.drewN _) (Nat.add_assoc _ _ _))⟩))); try go_wp2_with (first | (go_at_call 11; (with_reducible refine (casketref01_Same.calls k3 _ _ y448 _ _ y452 false _ ?side1 ?side2 ?side3 ?side4 A61.out).mono ?_); (case side1 => repeat (first | exact (by repeat (first | (with_reducible exact HR451.out) | (with_reducible refine Kd.C_alloc ?_ _) | (with_reducible refine Kd.C_drewN ?_ _) | (with_reducible refine Kd.C_drew ?_) | exact HR451.out)) | (with_reducible refine Kd.C_alloc ?_ _) | (with_reducible refine Kd.C_drewN ?_ _) | (with_reducible refine Kd.C_drew ?_))); (case side2 => exact HC451.out); (case side3 => repeat (first | exact (by repeat (first | (with_reducible exact HR455.out) | (with_reducible refine Kd.C_alloc ?_ _) | (with_reducible refine Kd.C_drewN ?_ _) | (with_reducible refine Kd.C_drew ?_) | exact HR455.out)) | (with_reducible refine Kd.C_alloc ?_ _) | (with_reducible refine Kd.C_drewN ?_ _) | (with_reducible refine Kd.C_drew ?_))); (case side4 => exact HC455.out); rintro e w' ⟨rfl, ⟨nd, rfl⟩⟩; (try first | exact ⟨rfl, _, World.drewN_drewN _ _ _⟩ | exact ⟨rfl, _, Eq.trans (World.drewN_drewN _ _ _) (congrArg (World.drewN _) (Nat.add_assoc _ _ _))⟩))))
                                  go_ret
                                  exact ⟨by first | rfl | (simp [errW_none, errW_some] <;> rfl) | (simp [*, errW_none, errW_some] <;> rfl), by repeat (first | (with_reducible first | exact HB.out | apply below_alloc | apply pw_below_drewN | apply below_drew1) | exact HB.out)⟩
                              · rw [if_neg c60] at H
                                exact absurd H (by simp)
                            · rw [if_neg c59] at H
                              exact absurd H (by simp)
                          · rw [if_neg c58] at H
                            have c58b0 : decide ((wrap64 (1 + (wrap64 (8 * x12_3)))) ≤ (t420.length : Int)) = false := decide_eq_false c58
                            clear c58
                            obtain rfl := Option.some.inj H
                            obtain ⟨Ao79, co79, eo79⟩ := Kd.R_slice HO_8.out
                            subst eo79
                            go_wp2
                            repeat (go_quiet (fail); try go_wp2)
                            go_ret
                            exact ⟨by first | rfl | (simp [errW_none, errW_some] <;> rfl) | (simp [*, errW_none, errW_some] <;> rfl), by repeat (first | (with_reducible first | exact HB.out | apply below_alloc | apply pw_below_drewN | apply below_drew1) | exact HB.out)⟩
                        · replace c57 := Bool.eq_false_iff.mpr c57
                          subst c57
                          have H1 : (some false) = some r := by rw [if_neg (show ¬ (false = true) by decide)] at H; exact H
                          clear H
                          have H := H1
                          clear H1
                          obtain rfl := Option.some.inj H
                          go_wp2
                          repeat (go_quiet (fail); try go_wp2)
                          go_ret
                          exact ⟨by first | rfl | (simp [errW_none, errW_some] <;> rfl) | (simp [*, errW_none, errW_some] <;> rfl), by repeat (first | (with_reducible first | exact HB.out | apply below_alloc | apply pw_below_drewN | apply below_drew1) | exact HB.out)⟩

/-- THE ONE PURE STATEMENT of casketlaw10_DictNames: yours. -/
def casketlaw10_DictNames.Pure : Prop := ∀ (l0 : List Int) (a1 : Int), l0.length ≤ maxLen → l0.length * 8 ≤ 140737488351232 → (∀ x ∈ l0, (Lit.int .u64 x).wf = true) → (Lit.int .u64 a1).wf = true → ∃ k, casketlaw10_DictNames.f k l0 a1 = some true
theorem casketlaw10_DictNames.walk (P : casketlaw10_DictNames.Pure) (a0 : Option Addr) (len0 cap0 : Nat) (z0 : List Int) (a1 : Int) (w : World) (w0 : (a0 = none ∧ len0 = 0 ∧ cap0 = 0 ∧ z0 = []) ∨ ∃ x, a0 = some x ∧ len0 ≤ cap0 ∧ cap0 ≤ maxLen ∧ z0.length = cap0 ∧ (∀ i, i < z0.length → w.cell? (x.add i) = some (.int .u64 (z0.getD i 0))) ∧ ∀ n ∈ z0, (Lit.int .u64 n).wf = true) (y0 : len0 * 8 ≤ 140737488351232) (w1 : (Lit.int .u64 a1).wf = true) :
    Calls Try.prog 7 #[.slice a0 len0 cap0, .int .u64 a1] w fun e w' => e = .returned (.bool true) ∧ Below w.heap.size w w' := by
  obtain ⟨l0, rfl, hr0, hm0, hw0, hc0⟩ := ReadsInt.ofRowC w0
  obtain ⟨k, h⟩ := P l0 a1 hm0 y0 hw0 w1
  refine (casketlaw10_DictNames.calls k _ _ l0 a1 true w (Kd.C_of_reads (d := (0 : Int)) (h1 := fun _ => rfl) hr0) hc0 h).mono ?_
  rintro e w' ⟨rfl, hd⟩
  exact ⟨rfl, hd⟩

end Go.Proofs.Ytfnnlcmfahadhaa.P
