/- The cursor's laws: the example, blocks behind their number. -/
import Derived.Test.YtcfkljhdjoepkaaPx5
import Derived.Test.YtcfkljhdjoepkaaPx3
import Derived.Test.YtcfkljhdjoepkaaPx4
import Derived.Test.YtcfkljhdjoepkaaPx1
import Derived.Test.YtcfkljhdjoepkaaCurS
import Derived.Test.YtcfkljhdjoepkaaCurV
import Derived.Test.YtcfkljhdjoepkaaFix
namespace Go.Proofs.Ytcfkljhdjoepkaa.CurL
open Go.RowKit Go.Proofs.Ytcfkljhdjoepkaa.P Go.Proofs.Ytcfkljhdjoepkaa.Kit Go.Proofs.Ytcfkljhdjoepkaa.Var Go.Proofs.YtcfkljhdjoepkaaW.PrintWords Go.Proofs.YtcfkljhdjoepkaaW.PrintLast Go.Proofs.YtcfkljhdjoepkaaW.PrintMore
set_option linter.unusedVariables false
set_option linter.unusedSimpArgs false

theorem same_ev (a b : List Int) (hs : a.length < 140737488355328) : Evn (fun k => casketlaw03_same.f k a b) (decide (a = b)) := by
  unfold casketlaw03_same.f
  exact Evn.bind (Same_ev a b hs) (Evn.pure _)
theorem Block_ev (b : List Int) (hb : b.length + 20 < 140737488355328) : Evn (fun k => cursor_Block.f k b) (vn b.length ++ b) := by
  have := vn_len10 b.length (by omega)
  unfold cursor_Block.f
  rw [k64_id _ (by omega) (by omega)]
  refine Evn.bind (Append_nat [] b.length (by simp) (by omega)) ?_
  rw [List.nil_append]
  exact Evn.pos (by omega) (Evn.pure _)
theorem New_f (s : List Int) (h : cgood s) : cursor_New.f s = some s := if_pos h
theorem Block_f (s : List Int) (n : Int) (h : cgood s) (hn : n ≤ 9223372036854775807) : cursor_Cursor_Block.f s n = some ((cBlock s n).1, (cBlock s n).2.2, (cBlock s n).2.1) := if_pos ⟨h, hn⟩
theorem Fixed_f (s : List Int) (n : Int) (h : cgood s) : cursor_Cursor_Fixed.f s n = some ((cFixed s n).1, (cFixed s n).2.2, (cFixed s n).2.1) := if_pos h
theorem Left_f (s : List Int) (h : cgood s) : cursor_Cursor_Left.f s = some ((s.length : Int), s) := if_pos h
theorem End_f (s : List Int) (h : cgood s) : cursor_Cursor_End.f s = some ((if 0 < s.length then 3 else 0), s) := if_pos h
theorem awake_ev : Evn (fun k => casketlaw03_awake.f k) true := by
  have g1 : cgood [2, 7, 8, 9] := by decide
  have g2 : cgood [9] := by decide
  have g3 : cgood [] := by decide
  have e1 : cBlock [2, 7, 8, 9] 5 = ([7, 8], [9], 0) := by decide +kernel
  have e2 : cFixed [9] 1 = (9, [], 0) := by decide +kernel
  unfold casketlaw03_awake.f
  refine Evn.bindc (New_f _ g1) (Evn.bindc (Block_f _ _ g1 (by decide)) ?_)
  rw [e1]
  refine Evn.bindc (Left_f _ g2) (Evn.bindc (Fixed_f _ _ g2) ?_)
  rw [e2]
  refine Evn.pos rfl (Evn.bind (same_ev _ _ (by decide)) (Evn.pos (by decide) (Evn.pos rfl (Evn.pos rfl (Evn.pos rfl (Evn.bindc (End_f _ g3) (Evn.pos rfl (Evn.bind (Block_ev [7, 8] (by decide)) ?_))))))))
  exact Evn.bind (same_ev _ _ (by simp [vn_small])) ((Evn.pure _).eq (by simp [vn_small]))
/-- A block that is whole. -/
theorem cBlock_back (b s : List Int) (most : Int) (hb : b.length < 140737488355328) (hm : (b.length : Int) ≤ most) : cBlock (vn b.length ++ (b ++ s)) most = (b, s, 0) := by
  unfold cBlock
  rw [vread_vn' b.length (b ++ s) (by omega)]
  simp only [Int.toNat_natCast]
  rw [if_neg (by omega), if_neg (by simp), if_neg (by omega), if_neg (by simp; omega), List.drop_left, List.take_left, List.drop_left]
theorem cBlock_long (b s : List Int) (most : Int) (hb : b.length < 140737488355328) (h0 : 0 ≤ most) (hm : most < (b.length : Int)) : cBlock (vn b.length ++ (b ++ s)) most = ([], vn b.length ++ (b ++ s), 4) := by
  unfold cBlock
  rw [vread_vn' b.length (b ++ s) (by omega)]
  simp only
  rw [if_neg (by omega), if_neg (by simp), if_pos hm]
theorem cBlock_cut (b : List Int) (most : Int) (k : Nat) (hb : b.length < 140737488355328) (hm : (b.length : Int) ≤ most) (hk : k < (vn b.length ++ b).length) : cBlock ((vn b.length ++ b).take k) most = ([], (vn b.length ++ b).take k, 2) := by
  rw [List.length_append] at hk
  by_cases c : k < (vn b.length).length
  · rw [List.take_append_of_le_length (by omega)]
    unfold cBlock
    rw [vread_short' b.length k (by omega) c]
    rw [if_neg (by omega), if_pos (by simp)]
  · rw [List.take_append, List.take_of_length_le (by omega)]
    unfold cBlock
    rw [vread_vn' b.length _ (by omega)]
    simp only
    rw [if_neg (by omega), if_neg (by simp), if_neg (by omega), if_pos (by simp; omega)]
end Go.Proofs.Ytcfkljhdjoepkaa.CurL
