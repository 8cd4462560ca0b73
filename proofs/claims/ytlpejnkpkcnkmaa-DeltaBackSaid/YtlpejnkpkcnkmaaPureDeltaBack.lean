/- For every list of ints and every k from 0 to 3: Sum of Diff and Diff of Sum are the list (lists of at most 1000); for another k both say ErrArg. No condition. -/
import Derived.Test.YtlpejnkpkcnkmaaPlain
import Derived.Test.YtlpejnkpkcnkmaaPx4
namespace Go.Proofs.Ytlpejnkpkcnkmaa.Pure
open Go.RowKit Go.Proofs.Ytlpejnkpkcnkmaa.P Go.Proofs.Ytlpejnkpkcnkmaa.Kit Go.Proofs.Ytlpejnkpkcnkmaa.Plain Go.Proofs.YtlpejnkpkcnkmaaW.PrintWords Go.Proofs.YtlpejnkpkcnkmaaW.PrintLast Go.Proofs.YtlpejnkpkcnkmaaW.PrintMore
set_option linter.unusedVariables false
set_option linter.unusedSimpArgs false

theorem DeltaBack : casketlaw04_DeltaBack.Pure := by
  intro l a hm h8 hw ha
  refine Evn.get (g := fun k => casketlaw04_DeltaBack.f k l a) ?_
  unfold casketlaw04_DeltaBack.f
  refine Evn.bind awake_ev ?_
  by_cases h : (l.length : Int) > 1000
  · exact Evn.pos h (Evn.pure _)
  · refine Evn.neg h ?_
    have hs : l.length < 17592186044416 := by omega
    by_cases hr : 0 ≤ a ∧ a ≤ 3
    · refine Evn.bindc (Diff_eq l a hr.1 hr.2 hs) ?_
      refine Evn.bind (Sum_eq l a hr.1 hr.2 hs) ?_
      refine Evn.neg (by omega) ?_
      refine Evn.succ ?_ (fun k => by simp only [casketlaw04_DeltaBack.j0]; rw [if_neg (by simp; omega)])
      refine Evn.bind (Sum_eq _ a hr.1 hr.2 (by rw [D_length]; exact hs)) ?_
      refine Evn.bindc (Diff_eq _ a hr.1 hr.2 (by rw [S_length]; exact hs)) ?_
      rw [S_D _ hw, D_S _ hw]
      refine Evn.pos (by trivial) (Evn.pos (by trivial) (Evn.pos (by trivial) (Evn.pos (by trivial) (Evn.pos (by trivial) ?_))))
      refine Evn.bind (same_self _ hs) (Evn.pos (by trivial) ?_)
      exact Evn.bind (same_self _ hs) (Evn.pure _)
    · have hb : a < 0 ∨ 3 < a := by omega
      refine Evn.bindc (Diff_bad l a hb) ?_
      refine Evn.bind (Sum_bad l a hb) ?_
      have key : Evn (fun k => casketlaw04_DeltaBack.j0 k l a true [] 1 [] 1 true) true := by
        refine Evn.succ (Evn.pure _) fun k => ?_
        simp only [casketlaw04_DeltaBack.j0]
        rw [if_pos trivial, if_pos trivial, if_pos trivial, if_pos trivial]
        decide +kernel
      by_cases h0 : a < 0
      · exact Evn.pos h0 key
      · refine Evn.neg h0 ?_
        rw [show decide (a > 3) = true by simp; omega]
        exact key

end Go.Proofs.Ytlpejnkpkcnkmaa.Pure
