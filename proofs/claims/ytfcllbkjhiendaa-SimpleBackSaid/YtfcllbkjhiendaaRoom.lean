/- simple.Room as a pure function, and its contract. -/
import Derived.Test.YtfcllbkjhiendaaPx0
import Derived.Test.YtfcllbkjhiendaaKit
import Derived.OneCell
import Derived.RegionTactic
import Derived.BigRegion
import Derived.Outline
import Derived.Deep.QuietTactic
import Derived.Deep.WholeRow
import Derived.BigQuiet
namespace Go.Proofs.Ytfcllbkjhiendaa.P
open Go.RowKit Go.Proofs.Ytfcllbkjhiendaa.Kit Go.Proofs.YtfcllbkjhiendaaW.PrintWords Go.Proofs.YtfcllbkjhiendaaW.PrintLast Go.Proofs.YtfcllbkjhiendaaW.PrintMore
set_option linter.unusedVariables false
set_option linter.unusedSimpArgs false

/-- A whole array into the block that was made last, as one step. -/
theorem store_whole {P : Program} {ops : Array Oper} {rest : List Oper} {o : Oper} {a : Act} {Q : Exit → Act → World → Prop} {w : World} {c c' : Array Value} (t : TypeId) (p x : Operand) (ho : o.op = .store t p x) (hgd : o.guard = none) (hN : o.dst = none)
    (haddr : a.eval p = .pointer (some ⟨w.heap.size, 0, none⟩)) (hx : a.eval x = .agg c') (hi : (P.info? t).map (·.size) = some c'.size) (hs : c.size = c'.size) (h1 : c'.all (·.oneCell') = true)
    (h : wpList P ops Q rest a (w.alloc (.cells c' t))) : wpList P ops Q (o :: rest) a (w.alloc (.cells c t)) := by
  refine wpList_plain hgd fun K hK => ?_
  have hrun := run_storeAt_new (P := P) w t c c' hi hs h1
  unfold Oper.wp execOp
  simp only [ho, haddr, hx, Sem.run_bind, Sem.run_pure, Result.andThen_ok, hrun]
  show K (a.put o.dst undef) _
  rw [hN]
  exact hK a _ h
def roomL : List Int := [240, 0, 120, 0, 60, 1, 30, 2, 20, 3, 15, 4, 12, 5, 10, 6, 8, 7, 7, 8, 6, 10, 5, 12, 4, 15, 3, 20, 2, 30, 1, 60]
def roomA : Array Value := #[.int .i64 240, .int .i64 0, .int .i64 120, .int .i64 0, .int .i64 60, .int .i64 1, .int .i64 30, .int .i64 2, .int .i64 20, .int .i64 3, .int .i64 15, .int .i64 4, .int .i64 12, .int .i64 5, .int .i64 10, .int .i64 6, .int .i64 8, .int .i64 7, .int .i64 7, .int .i64 8, .int .i64 6, .int .i64 10, .int .i64 5, .int .i64 12, .int .i64 4, .int .i64 15, .int .i64 3, .int .i64 20, .int .i64 2, .int .i64 30, .int .i64 1, .int .i64 60]
theorem rooms_any (w : World) : Calls Try.prog 24 #[] w fun e w' => e = .returned (.agg roomA) ∧ w' = w.alloc (.cells roomA 44) := by
  go_enter Try.func24, Try.ntmps24
  go_upto_region 1 with (fail)
  go_wp2_with (refine store_whole (c' := roomA) 44 (.tmp 0) (.tmp 17) rfl rfl rfl rfl rfl (by kernel_rfl) rfl (by kernel_rfl) ?_)
  refine bodyPost_ret (v := .agg roomA) ?_ rfl ⟨rfl, rfl⟩
  exact results_cell_row rfl _ _ w.heap.size 44 roomA (0, 0) (.array 16 43) rfl (heap_alloc_last w _) (by kernel_rfl) rfl (by kernel_rfl)
def rN (s : Int) : Int := rd [240, 120, 60, 30, 20, 15, 12, 10, 8, 7, 6, 5, 4, 3, 2, 1] s
def rW (s : Int) : Int := rd [0, 0, 1, 2, 3, 4, 5, 6, 7, 8, 10, 12, 15, 20, 30, 60] s
def simple_Room.f (s : Int) : Option (Int × Int) := some (if s < 0 then 0 else if 15 < s then 0 else rN s, if s < 0 then 0 else if 15 < s then 0 else rW s)
set_option maxRecDepth 100000 in
theorem room_index (s : Nat) (hs : s < 16) (W : World) : (Instr.index 44 (.agg roomA) (.int .i64 (s : Int))).run Try.prog W = .ok (.agg #[.int .i64 (rN (s : Int)), .int .i64 (rW (s : Int))]) W := by
  obtain rfl | rfl | rfl | rfl | rfl | rfl | rfl | rfl | rfl | rfl | rfl | rfl | rfl | rfl | rfl | rfl : s = 0 ∨ s = 1 ∨ s = 2 ∨ s = 3 ∨ s = 4 ∨ s = 5 ∨ s = 6 ∨ s = 7 ∨ s = 8 ∨ s = 9 ∨ s = 10 ∨ s = 11 ∨ s = 12 ∨ s = 13 ∨ s = 14 ∨ s = 15 := by omega
  all_goals kernel_rfl
theorem simple_Room.calls (a0 : Int) (r1 : Int) (r2 : Int) (w : World) (h : simple_Room.f a0 = some (r1, r2)) :
    Calls Try.prog 12 #[.int .i64 a0] w fun e w' => e = .returned (.tuple #[.int .i64 r1, .int .i64 r2]) ∧ Below w.heap.size w w' := by
  unfold simple_Room.f at h
  injection h with h
  injection h with h1 h2
  subst h1 h2
  by_cases c0 : a0 < 0
  · rw [if_pos c0, if_pos c0]
    go_enter Try.func12, Try.ntmps12
    go_wp2
    go_ret2
    exact ⟨rfl, Below.refl _ _⟩
  · rw [if_neg c0, if_neg c0]
    by_cases c1 : 15 < a0
    · rw [if_pos c1, if_pos c1]
      have c2 : decide (16 ≤ a0) = true := decide_eq_true (by omega)
      have c3 : decide (a0 < 0) = false := decide_eq_false c0
      go_enter Try.func12, Try.ntmps12
      go_wp2
      go_ret2
      exact ⟨rfl, Below.refl _ _⟩
    · rw [if_neg c1, if_neg c1]
      have hr := rooms_any w
      obtain ⟨s, rfl⟩ := Int.eq_ofNat_of_zero_le (show 0 ≤ a0 by omega)
      have hix := room_index s (by omega)
      have HR := Aside0.mk hr
      have c2 : decide (16 ≤ (s : Int)) = false := decide_eq_false (by omega)
      have c3 : decide (16 ≤ s) = false := decide_eq_false (by omega)
      clear hr c0 c1
      generalize rN (s : Int) = rn at hix ⊢
      generalize rW (s : Int) = rw at hix ⊢
      go_enter Try.func12, Try.ntmps12
      go_wp2_with (go_at_call 24; refine HR.out.mono ?_; rintro e w1 ⟨rfl, rfl⟩)
      repeat (go_quiet (fail); try go_wp2)
      go_ret2
      exact ⟨rfl, by repeat (first | exact Below.refl _ _ | apply pw_below_drewN | apply below_drew1 | apply below_alloc)⟩
end Go.Proofs.Ytfcllbkjhiendaa.P
