/- Lists of numbers that are the same: what the document's Same of layer 5 comes to. -/
import Derived.Test.YtfpnoceppjjafaaDoorKit
import Derived.Test.YtfpnoceppjjafaaDoorPx6
namespace Go.Proofs.YtfpnoceppjjafaaDoor.Var
open Go.RowKit Go.Proofs.YtfpnoceppjjafaaDoor.P Go.Proofs.YtfpnoceppjjafaaDoor.Kit Go.Proofs.YtfpnoceppjjafaaDoorW.PrintWords Go.Proofs.YtfpnoceppjjafaaDoorW.PrintLast Go.Proofs.YtfpnoceppjjafaaDoorW.PrintMore
set_option linter.unusedVariables false
set_option linter.unusedSimpArgs false

theorem Same5_loop (a b : List Int) (hl : a.length = b.length) (hs : a.length < 140737488355328) (d i : Nat) (hi : i + d = a.length) (h : a.take i = b.take i) : Evn (fun k => casketref05_Same.l0 k a b (i : Int)) (decide (a = b)) := by
  induction d generalizing i with
  | zero =>
    refine Evn.succ (G := fun _ => some true) ?_ fun k => ?_
    · refine (Evn.pure true).eq ?_
      rw [List.take_of_length_le (by omega), List.take_of_length_le (by omega)] at h
      simp [h]
    · simp only [casketref05_Same.l0]
      rw [if_neg (by omega)]
  | succ d ih =>
    by_cases he : rd a (i : Int) = rd b (i : Int)
    · refine Evn.succ (ih (i + 1) (by omega) ?_) fun k => ?_
      · rw [List.take_add_one, List.take_add_one, h]
        have h1 : i < a.length := by omega
        have h2 : i < b.length := by omega
        simp only [rd_nat, List.getD_eq_getElem?_getD, List.getElem?_eq_getElem h1, List.getElem?_eq_getElem h2, Option.getD_some] at he
        rw [List.getElem?_eq_getElem h1, List.getElem?_eq_getElem h2, he]
      · simp only [casketref05_Same.l0]
        rw [if_pos (by omega), if_pos (by omega), if_pos (by omega), if_pos he, show wrap64 ((i : Int) + 1) = ((i + 1 : Nat) : Int) by unfold wrap64; omega]
    · refine Evn.succ (G := fun _ => some false) ?_ fun k => ?_
      · refine (Evn.pure false).eq ?_
        have : a ≠ b := fun e => he (by rw [e])
        simp [this]
      · simp only [casketref05_Same.l0]
        rw [if_pos (by omega), if_pos (by omega), if_pos (by omega), if_neg he]
theorem Same5_ev (a b : List Int) (hs : a.length < 140737488355328) : Evn (fun k => casketref05_Same.f k a b) (decide (a = b)) := by
  unfold casketref05_Same.f
  by_cases hl : a.length = b.length
  · refine Evn.pos (by omega) ?_
    exact Same5_loop a b hl hs a.length 0 (by omega) (by simp)
  · refine Evn.neg (by omega) ?_
    refine (Evn.pure false).eq ?_
    have : a ≠ b := fun e => hl (by rw [e])
    simp [this]
theorem Same5_self (a : List Int) (hs : a.length < 140737488355328) : Evn (fun k => casketref05_Same.f k a a) true := (Same5_ev a a hs).eq (by simp)

end Go.Proofs.YtfpnoceppjjafaaDoor.Var
