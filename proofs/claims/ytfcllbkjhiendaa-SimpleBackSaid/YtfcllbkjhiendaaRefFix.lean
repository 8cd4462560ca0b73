/- Numbers in so many bytes: what the document's Fix comes to. -/
import Derived.Test.YtfcllbkjhiendaaPx6
import Derived.Test.YtfcllbkjhiendaaFix
namespace Go.Proofs.Ytfcllbkjhiendaa.Var
open Go.RowKit Go.Proofs.Ytfcllbkjhiendaa.P Go.Proofs.Ytfcllbkjhiendaa.Kit Go.Proofs.YtfcllbkjhiendaaW.PrintWords Go.Proofs.YtfcllbkjhiendaaW.PrintLast Go.Proofs.YtfcllbkjhiendaaW.PrintMore
set_option linter.unusedVariables false
set_option linter.unusedSimpArgs false

theorem rFix_loop (v : Int) (i : Nat) : ∀ (out : List Int), i + out.length ≤ 8 → Evn (fun k => casketref03_Fix.l0 k v out ((i : Int) - 1)) (out ++ fixB i v) := by
  induction i with
  | zero =>
    intro out _
    refine Evn.round ?_
    simp only [casketref03_Fix.l0]
    refine Evn.neg (by omega) ?_
    rw [fixB, List.append_nil]
    exact Evn.pure _
  | succ i ih =>
    intro out hi
    have w1 : IntKind.u64.wrap (wrap64 (8 * (((i + 1 : Nat) : Int) - 1))) = ((8 * i : Nat) : Int) := by
      rw [wrap64_id (by omega) (by omega), k64_id _ (by omega) (by omega)]
      omega
    have w2 : wrap64 (((i + 1 : Nat) : Int) - 1 - 1) = (i : Int) - 1 := by rw [wrap64_id (by omega) (by omega)]; omega
    refine Evn.round ?_
    simp only [casketref03_Fix.l0, w1, w2]
    refine Evn.pos (by omega) (Evn.pos (by omega) (Evn.pos (by omega) ?_))
    rw [shr_at v i (by omega)]
    have := ih (out ++ [v / 2 ^ (8 * i) % 256]) (by simp; omega)
    rw [List.append_assoc, List.singleton_append] at this
    exact this
theorem rFix_ev (v : Int) (n : Nat) (hn : n ≤ 8) : Evn (fun k => casketref03_Fix.f k v (n : Int)) (fixB n v) := by
  unfold casketref03_Fix.f
  refine Evn.neg (by omega) (Evn.round ?_)
  simp only [casketref03_Fix.j0]
  refine Evn.neg (by simp; omega) ?_
  rw [wrap64_id (by omega) (by omega)]
  have := rFix_loop v n [] (by simpa using hn)
  rwa [List.nil_append] at this
theorem rFix_bad (v n : Int) (hn : n < 0 ∨ 8 < n) : Evn (fun k => casketref03_Fix.f k v n) [] := by
  unfold casketref03_Fix.f
  by_cases c : n < 0
  · refine Evn.pos c (Evn.round ?_)
    simp only [casketref03_Fix.j0]
    exact Evn.pos trivial (Evn.pure _)
  · refine Evn.neg c (Evn.round ?_)
    simp only [casketref03_Fix.j0]
    exact Evn.pos (by simp; omega) (Evn.pure _)
end Go.Proofs.Ytfcllbkjhiendaa.Var
