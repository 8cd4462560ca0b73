/- The law CursorReads: the walk by hand (a cursor beside the document's own readings; two slices came in). -/
import Derived.Test.YtcfkljhdjoepkaaPx4
import Derived.Test.YtcfkljhdjoepkaaPx3
import Derived.Test.YtcfkljhdjoepkaaPx7
import Derived.Test.YtcfkljhdjoepkaaPx8
import Derived.Test.YtcfkljhdjoepkaaCurL
import Derived.Test.YtcfkljhdjoepkaaRefCur
import Derived.Test.YtcfkljhdjoepkaaRefVar
import Derived.Deep.SlicePairs
import Derived.OneCell
import Derived.RegionTactic
import Derived.BigRegion
import Derived.Outline
import Derived.Deep.QuietTactic
import Derived.BigQuiet
namespace Go.Proofs.Ytcfkljhdjoepkaa.P
open Go.RowKit Go.WideShapes Go.Deep Go.Proofs.Ytcfkljhdjoepkaa.Kit Go.Proofs.Ytcfkljhdjoepkaa.Var Go.Proofs.YtcfkljhdjoepkaaW.PrintWords Go.Proofs.YtcfkljhdjoepkaaW.PrintLast Go.Proofs.YtcfkljhdjoepkaaW.PrintMore
attribute [local go_sem] max2_int min2_int max_two min_two
set_option linter.unusedVariables false
set_option linter.unusedSimpArgs false

def intOf' : Value → Int
  | .int _ a => a
  | _ => 0
/-- The cells of a slice of readings. -/
def OpsAt (W : World) (a0 : Option Addr) (n : Nat) (Wh Nn : Nat → Int) : Prop := ∀ i, i < n → ∃ ad, a0 = some ad ∧ W.cell? (ad.add (i * 2)) = some (.int .i64 (Wh i)) ∧ W.cell? ⟨(ad.add (i * 2)).block, (ad.add (i * 2)).off + 1, none⟩ = some (.int .i64 (Nn i)) ∧ Nn i ≤ 9223372036854775807
theorem ops_of {H : Type} {enc : TypeId × Value → H} {W : World} {a0 : Option Addr} {len0 cap0 fuel : Nat} {x : DataW H × List MemPlace} (hf : DataW.trod enc Try.prog W 0 (fun _ => true) true fuel 41 [.slice a0 len0 cap0] = some x) : ∃ Wh Nn : Nat → Int, OpsAt W a0 len0 Wh Nn := by
  rcases open_slice_pairs Try.underlying41 Try.underlying43 (by kernel_rfl) rfl rfl (by kernel_rfl) (by kernel_rfl) hf with ⟨hc, hx⟩ | ⟨a, len, cap, m, k, V0, V1, D0, D1, P0, P1, hc, _, hl, hm, hmm, hx, hall⟩
  · simp at hc
    obtain ⟨rfl, rfl, rfl⟩ := hc
    exact ⟨fun _ => 0, fun _ => 0, fun i hi => by omega⟩
  · simp at hc
    obtain ⟨rfl, rfl, rfl⟩ := hc
    have hlm : len0 ≤ m := by rw [hmm]; simp; exact hl
    refine ⟨fun i => intOf' (V0 i), fun i => intOf' (V1 i), fun i hi => ⟨a, rfl, ?_⟩⟩
    obtain ⟨c0, c1, t0, t1⟩ := hall i (by omega)
    obtain ⟨n0, e0, _, w0⟩ := DataW.trod_int Try.underlying3 t0
    obtain ⟨n1, e1, _, w1⟩ := DataW.trod_int Try.underlying3 t1
    injection e0 with e0
    injection e1 with e1
    have : -9223372036854775808 ≤ n1 ∧ n1 ≤ 9223372036854775807 := by simpa [Lit.wf, IntKind.min, IntKind.max, IntKind.signed, IntKind.bits] using w1
    have v0 : intOf' (V0 i) = n0 := by rw [e0]; rfl
    have v1 : intOf' (V1 i) = n1 := by rw [e1]; rfl
    show W.cell? (a.add (i * 2)) = some (.int .i64 (intOf' (V0 i))) ∧ W.cell? ⟨(a.add (i * 2)).block, (a.add (i * 2)).off + 1, none⟩ = some (.int .i64 (intOf' (V1 i))) ∧ intOf' (V1 i) ≤ 9223372036854775807
    rw [v0, v1, ← add_field _ _ 1 (by omega), c0, c1, e0, e1]
    exact ⟨rfl, rfl, this.2⟩
/-! the document's readings -/
theorem rByte_f (b : List Int) : casketref03_Byte.f b = some ((cByte b).1, (cByte b).2.1, (cByte b).2.2) := by
  cases b with
  | nil => rfl
  | cons x t =>
    unfold casketref03_Byte.f
    rw [if_neg (by rw [List.length_cons]; omega), if_pos (by rw [List.length_cons]; omega), if_pos (by rw [List.length_cons]; omega)]
    rfl
theorem rFixedC {b : List Int} (hb : Bytes b) (hl : b.length < 140737488355328) (n : Int) : Evn (fun k => casketref03_Fixed.f k b n) (cFixed b n) := by
  by_cases c : n < 0 ∨ 8 < n
  · have e : cFixed b n = (0, b, 1) := by
      unfold cFixed cBytes
      by_cases c8 : 8 < n
      · rw [if_pos c8]
      · rw [if_neg c8, if_pos (by omega)]
        rfl
    rw [e]
    unfold casketref03_Fixed.f
    have hj : Evn (fun k => casketref03_Fixed.j0 k b n true) (0, b, 1) := by
      refine Evn.round ?_
      simp only [casketref03_Fixed.j0]
      exact Evn.pos (by trivial) (Evn.pure _)
    by_cases c1 : n < 0
    · exact Evn.pos c1 hj
    · rw [decide_eq_true (show n > 8 by omega)]
      exact Evn.neg c1 hj
  · obtain ⟨m, rfl⟩ := Int.eq_ofNat_of_zero_le (show 0 ≤ n by omega)
    rw [cFixed_eq m (by omega)]
    exact rFixed_ev m (by omega) b hb hl
theorem vread_size (b : List Int) (hb : Bytes b) : 0 ≤ (vread b 0 0).2.1 ∧ (vread b 0 0).2.1 ≤ (b.length : Int) ∧ 0 ≤ (vread b 0 0).1 := by
  by_cases h3 : (vread b 0 0).2.2 = 0
  · obtain ⟨u, e1, e2, e3, e4, e5, e6⟩ := vread_only b 0 0 _ _ hb (by omega) (Prod.ext_iff.mpr ⟨rfl, Prod.ext_iff.mpr ⟨rfl, h3⟩⟩)
    replace e1 : (vread b 0 0).1 = 0 + (u : Int) * 2 ^ (7 * 0) := e1
    replace e2 : (vread b 0 0).2.1 = ((0 + (vn u).length : Nat) : Int) := e2
    rw [show 7 * 0 = 0 from rfl, Int.pow_zero] at e1
    omega
  · rcases vread_err b 0 0 with h1 | ⟨h0, h1, _⟩
    · exact absurd h1 h3
    · rw [h1, h0]
      omega
theorem rVarC {b : List Int} (hb : Bytes b) (hl : b.length < 140737488355328) : Evn (fun k => casketref03_Varint.f k b) (cVarint b) := by
  unfold casketref03_Varint.f
  have hs := vread_size b hb
  exact Evn.bind (rRead_ev b hb hl) (Evn.pos hs.1 (Evn.pos hs.2.1 (Evn.pure _)))
theorem cV_len (b : List Int) (hb : Bytes b) : ((cVarint b).2.1.length : Int) = (b.length : Int) - (vread b 0 0).2.1 := by
  have hs := vread_size b hb
  show ((b.drop _).length : Int) = _
  rw [List.length_drop]
  omega
theorem rBlockC {b : List Int} (hb : Bytes b) (hl : b.length < 140737488355328) (n : Int) (hn : n ≤ 9223372036854775807) : Evn (fun k => casketref03_Block.f k b n) (cBlock b n) := by
  have hs := vread_size b hb
  have hlen := cV_len b hb
  unfold casketref03_Block.f cBlock
  by_cases c0 : n < 0
  · rw [if_pos c0]
    exact Evn.pos c0 (Evn.pure _)
  · rw [if_neg c0]
    refine Evn.neg c0 (Evn.bind (rVarC hb hl) ?_)
    by_cases c1 : (vread b 0 0).2.2 = 0
    · rw [if_neg (show ¬ (vread b 0 0).2.2 ≠ 0 from fun h => h c1)]
      refine Evn.pos c1 ?_
      rw [wrapu64, show n % 18446744073709551616 = n by omega]
      by_cases c2 : n < (vread b 0 0).1
      · rw [if_pos c2]
        exact Evn.pos c2 (Evn.pure _)
      · rw [if_neg c2]
        refine Evn.neg c2 ?_
        rw [show wrap64 (cVarint b).1 = (cVarint b).1 from wrap64_id (by show _ ≤ (vread b 0 0).1; omega) (by show (vread b 0 0).1 ≤ _; omega)]
        refine Evn.bindc (rBytes_f _ _ (by omega)) ?_
        unfold cBytes
        rw [if_neg (show ¬ (cVarint b).1 < 0 from by show ¬ (vread b 0 0).1 < 0; omega)]
        by_cases c3 : ((cVarint b).2.1.length : Int) < (cVarint b).1
        · have c4 : (b.length : Int) - (vread b 0 0).2.1 < (vread b 0 0).1 := by rw [← hlen]; exact c3
          rw [if_pos c3, if_pos c4]
          exact Evn.neg (show ¬ (2 : Int) = 0 by decide) (Evn.pure _)
        · have c4 : ¬ (b.length : Int) - (vread b 0 0).2.1 < (vread b 0 0).1 := by rw [← hlen]; exact c3
          rw [if_neg c3, if_neg c4]
          exact Evn.pos rfl (Evn.pure _)
    · rw [if_pos (show (vread b 0 0).2.2 ≠ 0 from c1)]
      exact Evn.neg c1 (Evn.pure _)
/-! what a reading leaves is of the same kind -/
theorem cBytes_left (b : List Int) (n : Int) : (cBytes b n).2.1 = b ∨ ∃ m, (cBytes b n).2.1 = b.drop m := by
  unfold cBytes
  split
  · exact .inl rfl
  · split
    · exact .inl rfl
    · exact .inr ⟨_, rfl⟩
theorem good_drop {b : List Int} (h : Bytes b ∧ b.length ≤ 500) (m : Nat) : Bytes (b.drop m) ∧ (b.drop m).length ≤ 500 := ⟨h.1.drop m, by rw [List.length_drop]; omega⟩
theorem left_bytes {b : List Int} (h : Bytes b ∧ b.length ≤ 500) (n : Int) : Bytes (cBytes b n).2.1 ∧ (cBytes b n).2.1.length ≤ 500 := by
  rcases cBytes_left b n with e | ⟨m, e⟩
  · rw [e]
    exact h
  · rw [e]
    exact good_drop h m
theorem left_byte {b : List Int} (h : Bytes b ∧ b.length ≤ 500) : Bytes (cByte b).2.1 ∧ (cByte b).2.1.length ≤ 500 := by
  cases b with
  | nil => exact h
  | cons x t => exact good_drop h 1
theorem left_fixed {b : List Int} (h : Bytes b ∧ b.length ≤ 500) (n : Int) : Bytes (cFixed b n).2.1 ∧ (cFixed b n).2.1.length ≤ 500 := by
  unfold cFixed
  split
  · exact h
  · exact left_bytes h n
theorem left_varint {b : List Int} (h : Bytes b ∧ b.length ≤ 500) : Bytes (cVarint b).2.1 ∧ (cVarint b).2.1.length ≤ 500 := good_drop h _
theorem left_block {b : List Int} (h : Bytes b ∧ b.length ≤ 500) (n : Int) : Bytes (cBlock b n).2.1 ∧ (cBlock b n).2.1.length ≤ 500 := by
  unfold cBlock
  split
  · exact h
  · split
    · exact h
    · split
      · exact h
      · split
        · exact h
        · exact good_drop (good_drop h _) _
theorem short_bytes {b : List Int} (h : b.length ≤ 500) (n : Int) : (cBytes b n).1.length ≤ 500 := by
  unfold cBytes
  split
  · simp
  · split
    · simp
    · rw [List.length_take]
      omega
theorem short_block {b : List Int} (h : b.length ≤ 500) (n : Int) : (cBlock b n).1.length ≤ 500 := by
  unfold cBlock
  split
  · simp
  · split
    · simp
    · split
      · simp
      · split
        · simp
        · rw [List.length_take, List.length_drop]
          omega
set_option maxHeartbeats 2000000 in
set_option maxRecDepth 100000 in
theorem CursorReads_walk (a0 : Option Addr) (cap0 : Nat) (l : List Int) (a1 : Option Addr) (len1 cap1 : Nat) (Wh Nn : Nat → Int) (w : World) (hr : Kd.C (Kd.int .u8) w a0 l.length l) (hc : l.length ≤ cap0) (hby : Bytes l) (hops : OpsAt w a1 len1 Wh Nn) :
    Calls Try.prog 7 #[.slice a0 l.length cap0, .slice a1 len1 cap1] w fun e w' => e = .returned (.bool true) ∧ Below w.heap.size w w' := by
  have HR := Aside0.mk hr
  have HC := Aside0.mk hc
  have HBY := Aside0.mk hby
  have HOP := Aside0.mk hops
  obtain ⟨ka, hka⟩ := CurL.awake_ev.get
  have HA := Aside0.mk (casketlaw03_awake.calls ka true w hka)
  clear hr hc hby hops hka
  by_cases c1 : 500 < l.length
  · have e1 : decide (500 < (l.length : Int)) = true := decide_eq_true (by omega)
    have e2 : decide (500 < l.length) = true := decide_eq_true c1
    go_enter Try.func7, Try.ntmps7
    go_wp2_with (fail)
    refine HA.out.mono ?_
    rintro e wa ⟨rfl, hb⟩
    have HB := Aside0.mk hb
    clear hb HA
    go_wp2_with (fail)
    go_ret
    exact ⟨rfl, HB.out⟩
  · have e1 : decide (500 < (l.length : Int)) = false := decide_eq_false (by omega)
    have e2 : decide (500 < l.length) = false := decide_eq_false c1
    by_cases c2 : 200 < len1
    · have e3 : decide (200 < (len1 : Int)) = true := decide_eq_true (by omega)
      have e4 : decide (200 < len1) = true := decide_eq_true c2
      go_enter Try.func7, Try.ntmps7
      go_wp2_with (fail)
      refine HA.out.mono ?_
      rintro e wa ⟨rfl, hb⟩
      have HB := Aside0.mk hb
      clear hb HA
      go_wp2_with (fail)
      go_ret
      exact ⟨rfl, HB.out⟩
    · have e3 : decide (200 < (len1 : Int)) = false := decide_eq_false (by omega)
      have e4 : decide (200 < len1) = false := decide_eq_false c2
      have HL := Aside0.mk (show l.length ≤ 500 ∧ len1 ≤ 200 by omega)
      clear c1 c2
      go_enter Try.func7, Try.ntmps7
      go_wp2_with (fail)
      refine HA.out.mono ?_
      rintro e wa ⟨rfl, hb⟩
      have HB := Aside0.mk hb
      clear hb HA
      go_wp2_with (fail)
      refine (New_any w _ _ _ l HB.out (Kd.C_below HR.out HB.out) HC.out (by have := HL.out; omega)).mono ?_
      rintro e wb ⟨g, rfl, hc1, hg, hb1, hb2⟩
      have HCC := Aside0.mk hc1
      have HB2 := Aside0.mk hb1
      have HGW := Aside0.mk (show w.heap.size ≤ g from Nat.le_trans HB.out.size hg)
      have HV := Aside0.mk (show Kd.V (Kd.int .u8) 5 wb 0 (fun k => k ≠ g) (.slice a0 l.length cap0) l from Kd.V_mono (Kd.V_below (W := w) (Kd.V_mk (ok := fun k => k < w.heap.size) HC.out (fun W' hW => Kd.Heap.C (Kd.heap_int .u8) (fun k hk => hW k hk hk) HR.out)) hb1) (fun k hk => by have := HGW.out; omega))
      clear hc1 hg hb1 hb2 HB e1 e2 e3 e4
      go_wp2_with (fail)
      go_loopg [7, 8] len1 (fun kq v7 v8 W' => ∃ (i : Nat) (r : List Int), v8 = .int .i64 (i : Int) ∧ kq = len1 - i ∧ i ≤ len1 ∧ Aside0 (Cu W' w.heap.size g r) ∧ Aside0 (Below w.heap.size w W') ∧ Aside0 (Kd.V (Kd.int .u8) 5 W' 0 (fun k => k ≠ g) v7 r) ∧ Aside0 (Bytes r ∧ r.length ≤ 500))
      case atStart => exact ⟨0, l, rfl, rfl, Nat.zero_le _, HCC, HB2, HV, ⟨HBY.out, HL.out.1⟩⟩
      case round =>
        clear HCC HB2 HV
        obtain ⟨i, r, rfl, rfl, hi, HCC, HB, HV, HG⟩ := hrel
        obtain ⟨A7, q7, e7⟩ := Kd.V_slice HV.out
        subst e7
        by_cases hlt : i < len1
        · have c3 : decide ((i : Int) < (len1 : Int)) = true := decide_eq_true (by omega)
          have c4 : decide (i < len1) = true := decide_eq_true hlt
          obtain ⟨ad2, e2, hx, hy, hn⟩ := HOP.out i hlt
          subst e2
          replace hx := (HB.out.cell (World.block_lt_of_cell? w _ hx)).trans hx
          replace hy := (HB.out.cell (World.block_lt_of_cell? w _ hy)).trans hy
          have HW1 := Aside0.mk (show wrap64 ((i : Int) + 1) = ((i + 1 : Nat) : Int) from by have := HL.out; rw [wrap64_id (by omega) (by omega)]; omega)
          have HNN := Aside0.mk hn
          clear hn
          generalize Wh i = wh at *
          generalize Nn i = nn at *
          have HRL := Aside0.mk (show r.length < 140737488355328 from by have := HG.out.2; omega)
          by_cases w0 : wh = 0
          · subst w0
            have HRF := Aside0.mk (rByte_f r)
            have HGN := Aside0.mk (left_byte HG.out)
            have HM := Aside0.mk (Byte_any w _ g r HCC.out HB.out HRL.out)
            go_wp2_with (fail)
            refine HM.out.mono ?_
            rintro e wc ⟨rfl, hp⟩
            have HCC1 := Aside0.mk hp.1
            have HB1 := Aside0.mk hp.2.1
            have HV1 := Aside0.mk (Kd.V_kept HV.out hp.2.2 (fun k h => h))
            have HGL := Aside0.mk (show g < wc.heap.size from by obtain ⟨v, hgb, _, _⟩ := hp.1; exact lt_of_block hgb)
            clear hp HM HCC HB HV
            go_wp2_with (fail)
            refine (casketref03_Byte.calls (fun k => k ≠ g) A7 q7 r _ _ _ _ HV1.out HRF.out).mono ?_
            rintro e wd ⟨vr, rfl, hv, hb⟩
            have HV2 := Aside0.mk (show Kd.V (Kd.int .u8) 5 wd 0 (fun k => k ≠ g) vr _ from Kd.V_map hv (fun _ hf => Kd.F_mono hf (fun k hk => hk.elim (fun h => h) (fun h => by have := HGL.out; omega))))
            have HCC2 := Aside0.mk (HCC1.out.below hb)
            have HB2 := Aside0.mk (below_step HB1.out hb)
            clear hv hb HCC1 HB1 HV1 HRF
            obtain ⟨A8, q8, e8⟩ := Kd.V_slice HV2.out
            subst e8
            have HCC3 := HCC2
            have HB3 := HB2
            have HV3 := HV2
            clear HCC2 HB2 HV2
            generalize wd = wz at *
            generalize (cByte r).2.1 = rR at *
            by_cases hz : rR.length = 0
            · have z1 : (if 0 < rR.length then (3 : Int) else 0) = 0 := if_neg (by omega)
              have z2 : ((rR.length : Int) == 0) = true := by simp [hz]
              go_wp2_with (fail)
              refine (Left_any w _ g rR HCC3.out).mono ?_
              rintro e wf ⟨rfl, ⟨n6, rfl⟩⟩
              go_wp2_with (fail)
              refine (End_any w _ g rR (HCC3.out.drewN n6)).mono ?_
              rintro e wg ⟨rfl, ⟨n7, rfl⟩⟩
              rw [z1]
              have HCC4 := Aside0.mk ((HCC3.out.drewN n6).drewN n7)
              have HB4 := Aside0.mk (pw_below_drewN (pw_below_drewN HB3.out n6) n7)
              have HV4 := Aside0.mk (Kd.V_drewN (Kd.V_drewN HV3.out n6) n7)
              generalize (wz.drewN n6).drewN n7 = wy at *
              rw [hz] at HV4
              go_wp2_with (fail)
              go_roundg (len1 - (i + 1))
              case measure => exact (by have := HL.out; omega)
              case rel =>
                (try rw [HW1.out])
                exact ⟨i + 1, rR, rfl, rfl, hlt, HCC4, HB4, HV4, HGN⟩
            · have z1 : (if 0 < rR.length then (3 : Int) else 0) = 3 := if_pos (by omega)
              have z2 : ((rR.length : Int) == 0) = false := by simp; intro h; exact hz (by simp [h])
              go_wp2_with (fail)
              refine (Left_any w _ g rR HCC3.out).mono ?_
              rintro e wf ⟨rfl, ⟨n6, rfl⟩⟩
              go_wp2_with (fail)
              refine (End_any w _ g rR (HCC3.out.drewN n6)).mono ?_
              rintro e wg ⟨rfl, ⟨n7, rfl⟩⟩
              rw [z1]
              have HCC4 := Aside0.mk ((HCC3.out.drewN n6).drewN n7)
              have HB4 := Aside0.mk (pw_below_drewN (pw_below_drewN HB3.out n6) n7)
              have HV4 := Aside0.mk (Kd.V_drewN (Kd.V_drewN HV3.out n6) n7)
              generalize (wz.drewN n6).drewN n7 = wy at *
              go_wp2_with (fail)
              go_roundg (len1 - (i + 1))
              case measure => exact (by have := HL.out; omega)
              case rel =>
                (try rw [HW1.out])
                exact ⟨i + 1, rR, rfl, rfl, hlt, HCC4, HB4, HV4, HGN⟩
          · have b0 : (wh == 0) = false := by simpa using w0
            by_cases w1 : wh = 1
            · subst w1
              obtain ⟨kr, hkr⟩ := (rFixedC HG.out.1 HRL.out nn).get
              have HRF := Aside0.mk (show casketref03_Fixed.f kr r nn = some ((cFixed r nn).1, (cFixed r nn).2.1, (cFixed r nn).2.2) from hkr)
              clear hkr
              have HGN := Aside0.mk (left_fixed HG.out nn)
              have HM := Aside0.mk (Fixed_any w _ g r nn HCC.out HB.out HRL.out HG.out.1)
              go_wp2_with (fail)
              refine HM.out.mono ?_
              rintro e wc ⟨rfl, hp⟩
              have HCC1 := Aside0.mk hp.1
              have HB1 := Aside0.mk hp.2.1
              have HV1 := Aside0.mk (Kd.V_kept HV.out hp.2.2 (fun k h => h))
              have HGL := Aside0.mk (show g < wc.heap.size from by obtain ⟨v, hgb, _, _⟩ := hp.1; exact lt_of_block hgb)
              clear hp HM HCC HB HV
              go_wp2_with (fail)
              refine (casketref03_Fixed.calls kr (fun k => k ≠ g) A7 q7 r nn _ _ _ _ HV1.out HRF.out).mono ?_
              rintro e wd ⟨vr, rfl, hv, hb⟩
              have HV2 := Aside0.mk (show Kd.V (Kd.int .u8) 5 wd 0 (fun k => k ≠ g) vr _ from Kd.V_map hv (fun _ hf => Kd.F_mono hf (fun k hk => hk.elim (fun h => h) (fun h => by have := HGL.out; omega))))
              have HCC2 := Aside0.mk (HCC1.out.below hb)
              have HB2 := Aside0.mk (below_step HB1.out hb)
              clear hv hb HCC1 HB1 HV1 HRF
              obtain ⟨A8, q8, e8⟩ := Kd.V_slice HV2.out
              subst e8
              have HCC3 := HCC2
              have HB3 := HB2
              have HV3 := HV2
              clear HCC2 HB2 HV2
              generalize wd = wz at *
              generalize (cFixed r nn).2.1 = rR at *
              by_cases hz : rR.length = 0
              · have z1 : (if 0 < rR.length then (3 : Int) else 0) = 0 := if_neg (by omega)
                have z2 : ((rR.length : Int) == 0) = true := by simp [hz]
                go_wp2_with (fail)
                refine (Left_any w _ g rR HCC3.out).mono ?_
                rintro e wf ⟨rfl, ⟨n6, rfl⟩⟩
                go_wp2_with (fail)
                refine (End_any w _ g rR (HCC3.out.drewN n6)).mono ?_
                rintro e wg ⟨rfl, ⟨n7, rfl⟩⟩
                rw [z1]
                have HCC4 := Aside0.mk ((HCC3.out.drewN n6).drewN n7)
                have HB4 := Aside0.mk (pw_below_drewN (pw_below_drewN HB3.out n6) n7)
                have HV4 := Aside0.mk (Kd.V_drewN (Kd.V_drewN HV3.out n6) n7)
                generalize (wz.drewN n6).drewN n7 = wy at *
                rw [hz] at HV4
                go_wp2_with (fail)
                go_roundg (len1 - (i + 1))
                case measure => exact (by have := HL.out; omega)
                case rel =>
                  (try rw [HW1.out])
                  exact ⟨i + 1, rR, rfl, rfl, hlt, HCC4, HB4, HV4, HGN⟩
              · have z1 : (if 0 < rR.length then (3 : Int) else 0) = 3 := if_pos (by omega)
                have z2 : ((rR.length : Int) == 0) = false := by simp; intro h; exact hz (by simp [h])
                go_wp2_with (fail)
                refine (Left_any w _ g rR HCC3.out).mono ?_
                rintro e wf ⟨rfl, ⟨n6, rfl⟩⟩
                go_wp2_with (fail)
                refine (End_any w _ g rR (HCC3.out.drewN n6)).mono ?_
                rintro e wg ⟨rfl, ⟨n7, rfl⟩⟩
                rw [z1]
                have HCC4 := Aside0.mk ((HCC3.out.drewN n6).drewN n7)
                have HB4 := Aside0.mk (pw_below_drewN (pw_below_drewN HB3.out n6) n7)
                have HV4 := Aside0.mk (Kd.V_drewN (Kd.V_drewN HV3.out n6) n7)
                generalize (wz.drewN n6).drewN n7 = wy at *
                go_wp2_with (fail)
                go_roundg (len1 - (i + 1))
                case measure => exact (by have := HL.out; omega)
                case rel =>
                  (try rw [HW1.out])
                  exact ⟨i + 1, rR, rfl, rfl, hlt, HCC4, HB4, HV4, HGN⟩
            · have b1 : (wh == 1) = false := by simpa using w1
              by_cases w2 : wh = 2
              · subst w2
                obtain ⟨kr, hkr⟩ := (rVarC HG.out.1 HRL.out).get
                have HRF := Aside0.mk (show casketref03_Varint.f kr r = some ((cVarint r).1, (cVarint r).2.1, (cVarint r).2.2) from hkr)
                clear hkr
                have HGN := Aside0.mk (left_varint HG.out)
                have HM := Aside0.mk (Varint_any w _ g r HCC.out HB.out HRL.out HG.out.1)
                go_wp2_with (fail)
                refine HM.out.mono ?_
                rintro e wc ⟨rfl, hp⟩
                have HCC1 := Aside0.mk hp.1
                have HB1 := Aside0.mk hp.2.1
                have HV1 := Aside0.mk (Kd.V_kept HV.out hp.2.2 (fun k h => h))
                have HGL := Aside0.mk (show g < wc.heap.size from by obtain ⟨v, hgb, _, _⟩ := hp.1; exact lt_of_block hgb)
                clear hp HM HCC HB HV
                go_wp2_with (fail)
                refine (casketref03_Varint.calls kr (fun k => k ≠ g) A7 q7 r _ _ _ _ HV1.out HRF.out).mono ?_
                rintro e wd ⟨vr, rfl, hv, hb⟩
                have HV2 := Aside0.mk (show Kd.V (Kd.int .u8) 5 wd 0 (fun k => k ≠ g) vr _ from Kd.V_map hv (fun _ hf => Kd.F_mono hf (fun k hk => hk.elim (fun h => h) (fun h => by have := HGL.out; omega))))
                have HCC2 := Aside0.mk (HCC1.out.below hb)
                have HB2 := Aside0.mk (below_step HB1.out hb)
                clear hv hb HCC1 HB1 HV1 HRF
                obtain ⟨A8, q8, e8⟩ := Kd.V_slice HV2.out
                subst e8
                have HCC3 := HCC2
                have HB3 := HB2
                have HV3 := HV2
                clear HCC2 HB2 HV2
                generalize wd = wz at *
                generalize (cVarint r).2.1 = rR at *
                by_cases hz : rR.length = 0
                · have z1 : (if 0 < rR.length then (3 : Int) else 0) = 0 := if_neg (by omega)
                  have z2 : ((rR.length : Int) == 0) = true := by simp [hz]
                  go_wp2_with (fail)
                  refine (Left_any w _ g rR HCC3.out).mono ?_
                  rintro e wf ⟨rfl, ⟨n6, rfl⟩⟩
                  go_wp2_with (fail)
                  refine (End_any w _ g rR (HCC3.out.drewN n6)).mono ?_
                  rintro e wg ⟨rfl, ⟨n7, rfl⟩⟩
                  rw [z1]
                  have HCC4 := Aside0.mk ((HCC3.out.drewN n6).drewN n7)
                  have HB4 := Aside0.mk (pw_below_drewN (pw_below_drewN HB3.out n6) n7)
                  have HV4 := Aside0.mk (Kd.V_drewN (Kd.V_drewN HV3.out n6) n7)
                  generalize (wz.drewN n6).drewN n7 = wy at *
                  rw [hz] at HV4
                  go_wp2_with (fail)
                  go_roundg (len1 - (i + 1))
                  case measure => exact (by have := HL.out; omega)
                  case rel =>
                    (try rw [HW1.out])
                    exact ⟨i + 1, rR, rfl, rfl, hlt, HCC4, HB4, HV4, HGN⟩
                · have z1 : (if 0 < rR.length then (3 : Int) else 0) = 3 := if_pos (by omega)
                  have z2 : ((rR.length : Int) == 0) = false := by simp; intro h; exact hz (by simp [h])
                  go_wp2_with (fail)
                  refine (Left_any w _ g rR HCC3.out).mono ?_
                  rintro e wf ⟨rfl, ⟨n6, rfl⟩⟩
                  go_wp2_with (fail)
                  refine (End_any w _ g rR (HCC3.out.drewN n6)).mono ?_
                  rintro e wg ⟨rfl, ⟨n7, rfl⟩⟩
                  rw [z1]
                  have HCC4 := Aside0.mk ((HCC3.out.drewN n6).drewN n7)
                  have HB4 := Aside0.mk (pw_below_drewN (pw_below_drewN HB3.out n6) n7)
                  have HV4 := Aside0.mk (Kd.V_drewN (Kd.V_drewN HV3.out n6) n7)
                  generalize (wz.drewN n6).drewN n7 = wy at *
                  go_wp2_with (fail)
                  go_roundg (len1 - (i + 1))
                  case measure => exact (by have := HL.out; omega)
                  case rel =>
                    (try rw [HW1.out])
                    exact ⟨i + 1, rR, rfl, rfl, hlt, HCC4, HB4, HV4, HGN⟩
              · have b2 : (wh == 2) = false := by simpa using w2
                by_cases w3 : wh = 3
                · subst w3
                  have HRF := Aside0.mk (show casketref03_Bytes.f r nn = some ((cBytes r nn).1, (cBytes r nn).2.1, (cBytes r nn).2.2) from rBytes_f r nn HRL.out)
                  have HGN := Aside0.mk (left_bytes HG.out nn)
                  obtain ⟨ks, hks⟩ := (CurL.same_ev (cBytes r nn).1 (cBytes r nn).1 (by have := short_bytes HG.out.2 nn; omega)).get
                  rw [decide_eq_true rfl] at hks
                  have HSM := Aside0.mk hks
                  clear hks
                  have HM := Aside0.mk (Bytes_any w _ g r nn HCC.out HB.out HRL.out)
                  go_wp2_with (fail)
                  refine HM.out.mono ?_
                  rintro e wc ⟨vx, rfl, hxr, hp⟩
                  have HX := Aside0.mk hxr
                  clear hxr
                  have HCC1 := Aside0.mk hp.1
                  have HB1 := Aside0.mk hp.2.1
                  have HV1 := Aside0.mk (Kd.V_kept HV.out hp.2.2 (fun k h => h))
                  have HGL := Aside0.mk (show g < wc.heap.size from by obtain ⟨v, hgb, _, _⟩ := hp.1; exact lt_of_block hgb)
                  clear hp HM HCC HB HV
                  go_wp2_with (fail)
                  refine (casketref03_Bytes.calls (fun k => k ≠ g) A7 q7 r nn _ _ _ _ HV1.out HRF.out).mono ?_
                  rintro e wd ⟨vy, vr, rfl, hyr, hv, hb⟩
                  have HY := Aside0.mk hyr
                  have HX2 := Aside0.mk (Kd.R_below HX.out hb)
                  clear hyr HX
                  have HV2 := Aside0.mk (show Kd.V (Kd.int .u8) 5 wd 0 (fun k => k ≠ g) vr _ from Kd.V_map hv (fun _ hf => Kd.F_mono hf (fun k hk => hk.1.elim (fun h => h) (fun h => by have := HGL.out; omega))))
                  have HCC2 := Aside0.mk (HCC1.out.below hb)
                  have HB2 := Aside0.mk (below_step HB1.out hb)
                  clear hv hb HCC1 HB1 HV1 HRF
                  obtain ⟨A8, q8, e8⟩ := Kd.V_slice HV2.out
                  subst e8
                  obtain ⟨A9, q9, e9⟩ := Kd.R_slice HX2.out
                  subst e9
                  obtain ⟨AA, qA, eA⟩ := Kd.R_slice HY.out
                  subst eA
                  go_wp2_with (fail)
                  refine (casketlaw03_same.calls ks _ _ (cBytes r nn).1 _ _ (cBytes r nn).1 true _ (Kd.R_reads' HX2.out).2.2 (Kd.R_reads' HX2.out).2.1 (Kd.R_reads' HY.out).2.2 (Kd.R_reads' HY.out).2.1 HSM.out).mono ?_
                  rintro e we ⟨rfl, ⟨n5, rfl⟩⟩
                  have HCC3 := Aside0.mk (HCC2.out.drewN n5)
                  have HB3 := Aside0.mk (pw_below_drewN HB2.out n5)
                  have HV3 := Aside0.mk (Kd.V_drewN HV2.out n5)
                  clear HCC2 HB2 HV2 HX2 HY
                  generalize wd.drewN n5 = wz at *
                  generalize (cBytes r nn).2.1 = rR at *
                  by_cases hz : rR.length = 0
                  · have z1 : (if 0 < rR.length then (3 : Int) else 0) = 0 := if_neg (by omega)
                    have z2 : ((rR.length : Int) == 0) = true := by simp [hz]
                    go_wp2_with (fail)
                    refine (Left_any w _ g rR HCC3.out).mono ?_
                    rintro e wf ⟨rfl, ⟨n6, rfl⟩⟩
                    go_wp2_with (fail)
                    refine (End_any w _ g rR (HCC3.out.drewN n6)).mono ?_
                    rintro e wg ⟨rfl, ⟨n7, rfl⟩⟩
                    rw [z1]
                    have HCC4 := Aside0.mk ((HCC3.out.drewN n6).drewN n7)
                    have HB4 := Aside0.mk (pw_below_drewN (pw_below_drewN HB3.out n6) n7)
                    have HV4 := Aside0.mk (Kd.V_drewN (Kd.V_drewN HV3.out n6) n7)
                    generalize (wz.drewN n6).drewN n7 = wy at *
                    rw [hz] at HV4
                    go_wp2_with (fail)
                    go_roundg (len1 - (i + 1))
                    case measure => exact (by have := HL.out; omega)
                    case rel =>
                      (try rw [HW1.out])
                      exact ⟨i + 1, rR, rfl, rfl, hlt, HCC4, HB4, HV4, HGN⟩
                  · have z1 : (if 0 < rR.length then (3 : Int) else 0) = 3 := if_pos (by omega)
                    have z2 : ((rR.length : Int) == 0) = false := by simp; intro h; exact hz (by simp [h])
                    go_wp2_with (fail)
                    refine (Left_any w _ g rR HCC3.out).mono ?_
                    rintro e wf ⟨rfl, ⟨n6, rfl⟩⟩
                    go_wp2_with (fail)
                    refine (End_any w _ g rR (HCC3.out.drewN n6)).mono ?_
                    rintro e wg ⟨rfl, ⟨n7, rfl⟩⟩
                    rw [z1]
                    have HCC4 := Aside0.mk ((HCC3.out.drewN n6).drewN n7)
                    have HB4 := Aside0.mk (pw_below_drewN (pw_below_drewN HB3.out n6) n7)
                    have HV4 := Aside0.mk (Kd.V_drewN (Kd.V_drewN HV3.out n6) n7)
                    generalize (wz.drewN n6).drewN n7 = wy at *
                    go_wp2_with (fail)
                    go_roundg (len1 - (i + 1))
                    case measure => exact (by have := HL.out; omega)
                    case rel =>
                      (try rw [HW1.out])
                      exact ⟨i + 1, rR, rfl, rfl, hlt, HCC4, HB4, HV4, HGN⟩
                · have b3 : (wh == 3) = false := by simpa using w3
                  obtain ⟨kr, hkr⟩ := (rBlockC HG.out.1 HRL.out nn HNN.out).get
                  have HRF := Aside0.mk (show casketref03_Block.f kr r nn = some ((cBlock r nn).1, (cBlock r nn).2.1, (cBlock r nn).2.2) from hkr)
                  clear hkr
                  have HGN := Aside0.mk (left_block HG.out nn)
                  obtain ⟨ks, hks⟩ := (CurL.same_ev (cBlock r nn).1 (cBlock r nn).1 (by have := short_block HG.out.2 nn; omega)).get
                  rw [decide_eq_true rfl] at hks
                  have HSM := Aside0.mk hks
                  clear hks
                  have HM := Aside0.mk (Block_any w _ g r nn HCC.out HB.out HRL.out HG.out.1 HNN.out)
                  go_wp2_with (fail)
                  refine HM.out.mono ?_
                  rintro e wc ⟨vx, rfl, hxr, hp⟩
                  have HX := Aside0.mk hxr
                  clear hxr
                  have HCC1 := Aside0.mk hp.1
                  have HB1 := Aside0.mk hp.2.1
                  have HV1 := Aside0.mk (Kd.V_kept HV.out hp.2.2 (fun k h => h))
                  have HGL := Aside0.mk (show g < wc.heap.size from by obtain ⟨v, hgb, _, _⟩ := hp.1; exact lt_of_block hgb)
                  clear hp HM HCC HB HV
                  go_wp2_with (fail)
                  refine (casketref03_Block.calls kr (fun k => k ≠ g) A7 q7 r nn _ _ _ _ HV1.out HRF.out).mono ?_
                  rintro e wd ⟨vy, vr, rfl, hyr, hv, hb⟩
                  have HY := Aside0.mk hyr
                  have HX2 := Aside0.mk (Kd.R_below HX.out hb)
                  clear hyr HX
                  have HV2 := Aside0.mk (show Kd.V (Kd.int .u8) 5 wd 0 (fun k => k ≠ g) vr _ from Kd.V_map hv (fun _ hf => Kd.F_mono hf (fun k hk => hk.1.elim (fun h => h) (fun h => by have := HGL.out; omega))))
                  have HCC2 := Aside0.mk (HCC1.out.below hb)
                  have HB2 := Aside0.mk (below_step HB1.out hb)
                  clear hv hb HCC1 HB1 HV1 HRF
                  obtain ⟨A8, q8, e8⟩ := Kd.V_slice HV2.out
                  subst e8
                  obtain ⟨A9, q9, e9⟩ := Kd.R_slice HX2.out
                  subst e9
                  obtain ⟨AA, qA, eA⟩ := Kd.R_slice HY.out
                  subst eA
                  go_wp2_with (fail)
                  refine (casketlaw03_same.calls ks _ _ (cBlock r nn).1 _ _ (cBlock r nn).1 true _ (Kd.R_reads' HX2.out).2.2 (Kd.R_reads' HX2.out).2.1 (Kd.R_reads' HY.out).2.2 (Kd.R_reads' HY.out).2.1 HSM.out).mono ?_
                  rintro e we ⟨rfl, ⟨n5, rfl⟩⟩
                  have HCC3 := Aside0.mk (HCC2.out.drewN n5)
                  have HB3 := Aside0.mk (pw_below_drewN HB2.out n5)
                  have HV3 := Aside0.mk (Kd.V_drewN HV2.out n5)
                  clear HCC2 HB2 HV2 HX2 HY
                  generalize wd.drewN n5 = wz at *
                  generalize (cBlock r nn).2.1 = rR at *
                  by_cases hz : rR.length = 0
                  · have z1 : (if 0 < rR.length then (3 : Int) else 0) = 0 := if_neg (by omega)
                    have z2 : ((rR.length : Int) == 0) = true := by simp [hz]
                    go_wp2_with (fail)
                    refine (Left_any w _ g rR HCC3.out).mono ?_
                    rintro e wf ⟨rfl, ⟨n6, rfl⟩⟩
                    go_wp2_with (fail)
                    refine (End_any w _ g rR (HCC3.out.drewN n6)).mono ?_
                    rintro e wg ⟨rfl, ⟨n7, rfl⟩⟩
                    rw [z1]
                    have HCC4 := Aside0.mk ((HCC3.out.drewN n6).drewN n7)
                    have HB4 := Aside0.mk (pw_below_drewN (pw_below_drewN HB3.out n6) n7)
                    have HV4 := Aside0.mk (Kd.V_drewN (Kd.V_drewN HV3.out n6) n7)
                    generalize (wz.drewN n6).drewN n7 = wy at *
                    rw [hz] at HV4
                    go_wp2_with (fail)
                    go_roundg (len1 - (i + 1))
                    case measure => exact (by have := HL.out; omega)
                    case rel =>
                      (try rw [HW1.out])
                      exact ⟨i + 1, rR, rfl, rfl, hlt, HCC4, HB4, HV4, HGN⟩
                  · have z1 : (if 0 < rR.length then (3 : Int) else 0) = 3 := if_pos (by omega)
                    have z2 : ((rR.length : Int) == 0) = false := by simp; intro h; exact hz (by simp [h])
                    go_wp2_with (fail)
                    refine (Left_any w _ g rR HCC3.out).mono ?_
                    rintro e wf ⟨rfl, ⟨n6, rfl⟩⟩
                    go_wp2_with (fail)
                    refine (End_any w _ g rR (HCC3.out.drewN n6)).mono ?_
                    rintro e wg ⟨rfl, ⟨n7, rfl⟩⟩
                    rw [z1]
                    have HCC4 := Aside0.mk ((HCC3.out.drewN n6).drewN n7)
                    have HB4 := Aside0.mk (pw_below_drewN (pw_below_drewN HB3.out n6) n7)
                    have HV4 := Aside0.mk (Kd.V_drewN (Kd.V_drewN HV3.out n6) n7)
                    generalize (wz.drewN n6).drewN n7 = wy at *
                    go_wp2_with (fail)
                    go_roundg (len1 - (i + 1))
                    case measure => exact (by have := HL.out; omega)
                    case rel =>
                      (try rw [HW1.out])
                      exact ⟨i + 1, rR, rfl, rfl, hlt, HCC4, HB4, HV4, HGN⟩
        · have c3 : decide ((i : Int) < (len1 : Int)) = false := decide_eq_false (by omega)
          have c4 : decide (i < len1) = false := decide_eq_false hlt
          go_wp2_with (fail)
          go_ret
          exact ⟨rfl, HB.out⟩
end Go.Proofs.Ytcfkljhdjoepkaa.P
