/- For every list of ints and every number k: delta.Diff and delta.Sum answer as the document's Diff and Sum do (lists of at most 1000 are compared). No condition. -/
import Derived.Test.YtlpejnkpkcnkmaaPlain
import Derived.Test.YtlpejnkpkcnkmaaPx4
namespace Go.Proofs.Ytlpejnkpkcnkmaa.Pure
open Go.RowKit Go.Proofs.Ytlpejnkpkcnkmaa.P Go.Proofs.Ytlpejnkpkcnkmaa.Kit Go.Proofs.Ytlpejnkpkcnkmaa.Plain Go.Proofs.YtlpejnkpkcnkmaaW.PrintWords Go.Proofs.YtlpejnkpkcnkmaaW.PrintLast Go.Proofs.YtlpejnkpkcnkmaaW.PrintMore
set_option linter.unusedVariables false
set_option linter.unusedSimpArgs false

theorem DeltaDoes : casketlaw04_DeltaDoes.Pure := by
  intro l a hm h8 hw ha
  refine Evn.get (g := fun k => casketlaw04_DeltaDoes.f k l a) ?_
  unfold casketlaw04_DeltaDoes.f
  refine Evn.bind awake_ev ?_
  by_cases h : (l.length : Int) > 1000
  · exact Evn.pos h (Evn.pure _)
  · refine Evn.neg h ?_
    have hs : l.length < 17592186044416 := by omega
    by_cases hr : 0 ≤ a ∧ a ≤ 3
    · refine Evn.bindc (Diff_eq l a hr.1 hr.2 hs) ?_
      refine Evn.bind (rDiff_eq l a hr.1 hr.2 hs) ?_
      refine Evn.bind (Sum_eq l a hr.1 hr.2 hs) ?_
      refine Evn.bind (rSum_eq l a hr.1 hr.2 hs) ?_
      refine Evn.pos rfl (Evn.pos rfl (Evn.pos rfl ?_))
      refine Evn.bind (same_self _ (by rw [D_length]; exact hs)) (Evn.pos rfl ?_)
      exact Evn.bind (same_self _ (by rw [S_length]; exact hs)) (Evn.pure _)
    · have hb : a < 0 ∨ 3 < a := by omega
      refine Evn.bindc (Diff_bad l a hb) ?_
      refine Evn.bind (rDiff_bad l a hb) ?_
      refine Evn.bind (Sum_bad l a hb) ?_
      refine Evn.bind (rSum_bad l a hb) ?_
      refine Evn.pos rfl (Evn.pos rfl (Evn.pos rfl ?_))
      refine Evn.bind (same_self _ (by simp)) (Evn.pos rfl ?_)
      exact Evn.bind (same_self _ (by simp)) (Evn.pure _)

end Go.Proofs.Ytlpejnkpkcnkmaa.Pure
