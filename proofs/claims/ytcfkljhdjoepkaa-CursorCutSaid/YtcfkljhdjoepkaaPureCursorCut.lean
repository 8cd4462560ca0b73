/- For all bytes (at most 300 are looked at) and every two numbers: a block that is cut off is too short, with a smaller limit too long, and behind an error nothing was read. No condition. -/
import Derived.Test.YtcfkljhdjoepkaaCurL
import Derived.Test.YtcfkljhdjoepkaaPx4
namespace Go.Proofs.Ytcfkljhdjoepkaa.Pure
open Go.RowKit Go.Proofs.Ytcfkljhdjoepkaa.P Go.Proofs.Ytcfkljhdjoepkaa.Kit Go.Proofs.Ytcfkljhdjoepkaa.Var Go.Proofs.Ytcfkljhdjoepkaa.CurL Go.Proofs.YtcfkljhdjoepkaaW.PrintWords Go.Proofs.YtcfkljhdjoepkaaW.PrintLast Go.Proofs.YtcfkljhdjoepkaaW.PrintMore
set_option linter.unusedVariables false
set_option linter.unusedSimpArgs false

theorem CursorCut : casketlaw03_CursorCut.Pure := by
  intro b a1 a2 hm h1 hb hn1 hn2
  have hby := bytes_of hb
  refine Evn.get (g := fun k => casketlaw03_CursorCut.f k b a1 a2) ?_
  unfold casketlaw03_CursorCut.f
  refine Evn.bind awake_ev ?_
  by_cases c0 : (b.length : Int) > 300
  · exact Evn.pos c0 (Evn.pure _)
  have e1 : Go.bits .and .i64 a1 511 = a1 % 512 := and_mask a1 9 (by omega)
  have e2 : Go.bits .and .i64 a2 511 = a2 % 512 := and_mask a2 9 (by omega)
  have h10 := vn_len10 b.length (by omega)
  have hall : (vn b.length ++ b).length < 400 := by
    rw [List.length_append]
    omega
  have gall : cgood (vn b.length ++ b) := ⟨Bytes.append (vn_byte _) hby, by omega⟩
  have hj : Evn (fun k => casketlaw03_CursorCut.j0 k b a2 true (vn b.length ++ b)) true := by
    refine Evn.round ?_
    simp only [casketlaw03_CursorCut.j0, e2]
    by_cases c : a2 % 512 < (b.length : Int)
    · refine Evn.pos c (Evn.bindc (New_f _ gall) (Evn.bindc (Block_f _ _ gall (by omega)) ?_))
      have e := cBlock_long b [] (a2 % 512) (by omega) (by omega) c
      rw [List.append_nil] at e
      rw [e]
      exact Evn.pos (by trivial) (Evn.bindc (Left_f _ gall) (Evn.pos (by trivial) (Evn.pure _)))
    · exact Evn.neg c (Evn.pure _)
  simp only [e1]
  refine Evn.neg c0 (Evn.bind (Block_ev b (by omega)) ?_)
  by_cases c : a1 % 512 < ((vn b.length ++ b).length : Int)
  · have gcut : cgood ((vn b.length ++ b).take (a1 % 512).toNat) := ⟨fun x hx => gall.1 x (List.mem_of_mem_take hx), by rw [List.length_take]; omega⟩
    refine Evn.pos c (Evn.pos (by omega) (Evn.pos (by omega) (Evn.bindc (New_f _ gcut) (Evn.bindc (Block_f _ _ gcut (by decide)) ?_))))
    rw [cBlock_cut b 1048576 (a1 % 512).toNat (by omega) (by omega) (by omega)]
    exact Evn.pos (by trivial) (Evn.bindc (Left_f _ gcut) (Evn.pos (by simp only [List.length_take]; omega) hj))
  · exact Evn.neg c hj

end Go.Proofs.Ytcfkljhdjoepkaa.Pure
