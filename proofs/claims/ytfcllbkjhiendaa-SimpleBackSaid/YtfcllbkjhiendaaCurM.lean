/- The cursor's methods as pure functions of what is left: contracts of Bytes, Byte, Fixed, Varint, Block, Left and End. -/
import Derived.Test.YtfcllbkjhiendaaPx3
import Derived.Test.YtfcllbkjhiendaaCur
import Derived.Test.YtfcllbkjhiendaaVar
import Derived.OneCell
import Derived.RegionTactic
import Derived.BigRegion
import Derived.Outline
import Derived.Deep.QuietTactic
import Derived.BigQuiet
namespace Go.Proofs.Ytfcllbkjhiendaa.P
open Go.RowKit Go.Proofs.Ytfcllbkjhiendaa.Kit Go.Proofs.Ytfcllbkjhiendaa.Var Go.Proofs.YtfcllbkjhiendaaW.PrintWords Go.Proofs.YtfcllbkjhiendaaW.PrintLast Go.Proofs.YtfcllbkjhiendaaW.PrintMore
attribute [local go_sem] max2_int min2_int max_two min_two max_three min_three max_four min_four
set_option linter.unusedVariables false
set_option linter.unusedSimpArgs false

def cBytes (b : List Int) (n : Int) : List Int × List Int × Int := if n < 0 then ([], b, 1) else if (b.length : Int) < n then ([], b, 2) else (b.take n.toNat, b.drop n.toNat, 0)
def cByte (b : List Int) : Int × List Int × Int := match b with | [] => (0, [], 2) | x :: t => (x, t, 0)
def be (l : List Int) (v : Int) : Int := l.foldl (fun v x => v * 256 + x) v
def cFixed (b : List Int) (n : Int) : Int × List Int × Int := if 8 < n then (0, b, 1) else (be (cBytes b n).1 0, (cBytes b n).2.1, (cBytes b n).2.2)
def cVarint (b : List Int) : Int × List Int × Int := ((vread b 0 0).1, b.drop (vread b 0 0).2.1.toNat, (vread b 0 0).2.2)
def cBlock (b : List Int) (most : Int) : List Int × List Int × Int :=
  if most < 0 then ([], b, 1) else if (vread b 0 0).2.2 ≠ 0 then ([], b, (vread b 0 0).2.2) else if most < (vread b 0 0).1 then ([], b, 4)
  else if (b.length : Int) - (vread b 0 0).2.1 < (vread b 0 0).1 then ([], b, 2)
  else ((b.drop (vread b 0 0).2.1.toNat).take (vread b 0 0).1.toNat, (b.drop (vread b 0 0).2.1.toNat).drop (vread b 0 0).1.toNat, 0)
/-- What a reading leaves. -/
def CuP (w0 W W' : World) (g : Nat) (b : List Int) : Prop := Cu W' w0.heap.size g b ∧ Below w0.heap.size w0 W' ∧ Kept W W' (fun k => k = g)
theorem CuP.drew {w0 W W' : World} {g : Nat} {b : List Int} (h : Cu W w0.heap.size g b) (hB : Below w0.heap.size w0 W) (hd : Drawn0 W W') : CuP w0 W W' g b := by
  obtain ⟨n, rfl⟩ := hd.out
  obtain ⟨v, hg, hb, hq⟩ := h
  exact ⟨⟨v, blk_drewN hg n, hb, Kd.Q_drewN hq n⟩, pw_below_drewN hB n, Kept.drewN (Kept.refl W _) n⟩
theorem CuP.below {w0 W W' : World} {g : Nat} {b : List Int} (h : Cu W w0.heap.size g b) (hB : Below w0.heap.size w0 W) (hd : Below W.heap.size W W') : CuP w0 W W' g b := by
  obtain ⟨v, hg, hb, hq⟩ := h
  exact ⟨⟨v, blk_below hg hd, hb, Kd.Q_below hq hd⟩, below_step hB hd, (Kept.refl W _).below hd⟩
theorem Cu.cell {W : World} {B g : Nat} {b : List Int} (h : Cu W B g b) : ∃ A c, W.cell? ⟨g, 0, none⟩ = some (.slice A b.length c) ∧ Kd.C (Kd.int .u8) W A b.length b ∧ b.length ≤ c := by
  obtain ⟨v, hg, hb, hq⟩ := h
  obtain ⟨A, c, e, hlc⟩ := Kd.Q_slice hq
  subst e
  exact ⟨A, c, cell_of_one hg, (Kd.Q_reads' hq).2.2, hlc⟩
theorem Bytes_any (w0 W : World) (g : Nat) (b : List Int) (n : Int) (h : Cu W w0.heap.size g b) (hB : Below w0.heap.size w0 W) (hb : b.length < 140737488355328) :
    Calls Try.prog 33 #[.pointer (some ⟨g, 0, none⟩), .int .i64 n] W fun e W' => ∃ v0, e = .returned (.tuple #[v0, .int .i64 (cBytes b n).2.2]) ∧ Kd.R (Kd.int .u8) 5 W' W.heap.size (fun _ => True) v0 (cBytes b n).1 ∧ CuP w0 W W' g (cBytes b n).2.1 := by
  obtain ⟨A, c, hc, hr, hlc⟩ := h.cell
  have HH := Aside0.mk h
  have HB := Aside0.mk hB
  by_cases c0 : n < 0
  · have e : cBytes b n = ([], b, 1) := by
      unfold cBytes
      rw [if_pos c0]
    rw [e]
    have c1 : decide (n < 0) = true := decide_eq_true c0
    clear h hB hb hr hlc e c0
    go_enter Try.func33, Try.ntmps33
    go_wp2
    repeat (go_quiet (fail); try go_wp2)
    go_ret2
    exact ⟨_, rfl, Kd.R_nil _ _ _ _ _, CuP.drew HH.out HB.out (by repeat (first | exact Drawn0.refl _ | apply Drawn0.step))⟩
  · by_cases c2 : (b.length : Int) < n
    · have e : cBytes b n = ([], b, 2) := by
        unfold cBytes
        rw [if_neg c0, if_pos c2]
      rw [e]
      have c1 : decide (n < 0) = false := decide_eq_false c0
      have c3 : decide ((b.length : Int) < n) = true := decide_eq_true c2
      clear h hB hb hr hlc e c0 c2
      go_enter Try.func33, Try.ntmps33
      go_wp2_with (go_at_call 34; refine (left_any _ A b.length c g hc).mono ?_; rintro e w1 ⟨rfl, rfl⟩)
      go_ret2
      exact ⟨_, rfl, Kd.R_nil _ _ _ _ _, CuP.drew HH.out HB.out (by repeat (first | exact Drawn0.refl _ | apply Drawn0.step))⟩
    · obtain ⟨m, rfl⟩ := Int.eq_ofNat_of_zero_le (Int.not_lt.mp c0)
      have e : cBytes b (m : Int) = (b.take m, b.drop m, 0) := by
        unfold cBytes
        rw [if_neg c0, if_neg c2, Int.toNat_natCast]
      rw [e]
      have hcall := take_good w0 W g b m h hB (by omega) hb
      have HCALL := Aside0.mk hcall
      have c1 : decide ((m : Int) < 0) = false := decide_eq_false c0
      have c3 : decide ((b.length : Int) < (m : Int)) = false := decide_eq_false c2
      have c4 : decide (b.length < m) = false := decide_eq_false (by omega)
      clear h hB hb hr hlc e c0 c2 hcall
      go_enter Try.func33, Try.ntmps33
      go_wp2_with (first | (go_at_call 34; refine (left_any _ A b.length c g hc).mono ?_; rintro e w1 ⟨rfl, rfl⟩) | (go_at_call 36; refine HCALL.out.mono ?_; rintro e w1 ⟨A9, q9, rfl, ho, hcu, hbl, hk⟩; have HO := Aside0.mk ho; have HP := Aside0.mk (show CuP w0 W w1 g (b.drop m) from ⟨hcu, hbl, hk⟩); clear ho hcu hbl hk))
      go_ret2
      exact ⟨_, rfl, HO.out, HP.out⟩
theorem Bytes_none (n : Int) (W : World) : Calls Try.prog 33 #[.pointer none, .int .i64 n] W fun e W' => e = .returned (.tuple #[.slice none 0 0, .int .i64 1]) ∧ Drawn0 W W' := by
  go_enter Try.func33, Try.ntmps33
  go_wp2
  repeat (go_quiet (fail); try go_wp2)
  go_ret2
  exact ⟨rfl, by repeat (first | exact Drawn0.refl _ | apply Drawn0.step)⟩
theorem End_any (w0 W : World) (g : Nat) (b : List Int) (h : Cu W w0.heap.size g b) : Calls Try.prog 28 #[.pointer (some ⟨g, 0, none⟩)] W fun e W' => e = .returned (.int .i64 (if 0 < b.length then 3 else 0)) ∧ Drawn0 W W' := by
  obtain ⟨A, c, hc, hr, hlc⟩ := h.cell
  clear h hr hlc
  by_cases c0 : 0 < b.length
  · rw [if_pos c0]
    have c1 : decide (0 < (b.length : Int)) = true := decide_eq_true (by omega)
    have c2 : decide (0 < b.length) = true := decide_eq_true c0
    go_enter Try.func28, Try.ntmps28
    go_wp2_with (go_at_call 34; refine (left_any _ A b.length c g hc).mono ?_; rintro e w1 ⟨rfl, rfl⟩)
    repeat (go_quiet (fail); try go_wp2)
    go_ret
    exact ⟨rfl, by repeat (first | exact Drawn0.refl _ | apply Drawn0.step)⟩
  · rw [if_neg c0]
    have c1 : decide (0 < (b.length : Int)) = false := decide_eq_false (by omega)
    have c2 : decide (0 < b.length) = false := decide_eq_false c0
    go_enter Try.func28, Try.ntmps28
    go_wp2_with (go_at_call 34; refine (left_any _ A b.length c g hc).mono ?_; rintro e w1 ⟨rfl, rfl⟩)
    repeat (go_quiet (fail); try go_wp2)
    go_ret
    exact ⟨rfl, by repeat (first | exact Drawn0.refl _ | apply Drawn0.step)⟩
theorem End_none (W : World) : Calls Try.prog 28 #[.pointer none] W fun e W' => e = .returned (.int .i64 1) ∧ Drawn0 W W' := by
  go_enter Try.func28, Try.ntmps28
  go_wp2
  go_ret
  exact ⟨rfl, by repeat (first | exact Drawn0.refl _ | apply Drawn0.step)⟩
theorem vread_n (b : List Int) (hb : Bytes b) : 0 ≤ (vread b 0 0).2.1 ∧ (vread b 0 0).2.1.toNat ≤ b.length ∧ 0 ≤ (vread b 0 0).1 ∧ (vread b 0 0).1 < 18446744073709551616 := by
  rcases vread_err b 0 0 with h | ⟨h1, h2, h3⟩
  · obtain ⟨u, e1, e2, e3, e4, e5, e6⟩ := vread_only b 0 0 _ _ hb (by omega) (Prod.ext_iff.mpr ⟨rfl, Prod.ext_iff.mpr ⟨rfl, h⟩⟩)
    replace e1 : (vread b 0 0).fst = 0 + (u : Int) * 2 ^ (7 * 0) := e1
    replace e2 : (vread b 0 0).snd.fst = ((0 + (vn u).length : Nat) : Int) := e2
    rw [e1, e2]
    rw [show 7 * 0 = 0 from rfl, Int.pow_zero] at e6 ⊢
    clear e1 e2 e4 e5
    refine ⟨by omega, by omega, by omega, by omega⟩
  · rw [h1, h2]
    simp
end Go.Proofs.Ytfcllbkjhiendaa.P
