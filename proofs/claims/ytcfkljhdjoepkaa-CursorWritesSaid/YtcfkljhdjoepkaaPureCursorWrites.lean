/- For every number, every number of bytes and all bytes (at most 500 are compared): cursor.Fix and cursor.Block write what the document's do. No condition. -/
import Derived.Test.YtcfkljhdjoepkaaCurL
import Derived.Test.YtcfkljhdjoepkaaRefFix
import Derived.Test.YtcfkljhdjoepkaaRefVar
import Derived.Test.YtcfkljhdjoepkaaPx5
namespace Go.Proofs.Ytcfkljhdjoepkaa.Pure
open Go.RowKit Go.Proofs.Ytcfkljhdjoepkaa.P Go.Proofs.Ytcfkljhdjoepkaa.Kit Go.Proofs.Ytcfkljhdjoepkaa.Var Go.Proofs.Ytcfkljhdjoepkaa.CurL Go.Proofs.YtcfkljhdjoepkaaW.PrintWords Go.Proofs.YtcfkljhdjoepkaaW.PrintLast Go.Proofs.YtcfkljhdjoepkaaW.PrintMore
set_option linter.unusedVariables false
set_option linter.unusedSimpArgs false

theorem rBlocked_ev (b : List Int) (hb : b.length + 20 < 140737488355328) : Evn (fun k => casketref03_Blocked.f k b) (vn b.length ++ b) := by
  have := vn_len10 b.length (by omega)
  unfold casketref03_Blocked.f
  rw [k64_id _ (by omega) (by omega)]
  refine Evn.bind (rAppend_nat [] b.length (by simp) (by omega)) ?_
  rw [List.nil_append]
  exact Evn.pos (by omega) (Evn.pure _)
theorem CursorWrites : casketlaw03_CursorWrites.Pure := by
  intro v n b hv hn hm h1 hb
  refine Evn.get (g := fun k => casketlaw03_CursorWrites.f k v n b) ?_
  unfold casketlaw03_CursorWrites.f
  refine Evn.bind awake_ev ?_
  by_cases c0 : (b.length : Int) > 500
  · exact Evn.pos c0 (Evn.pure _)
  refine Evn.neg c0 (Evn.pos rfl ?_)
  have h10 := vn_len10 b.length (by omega)
  have hrest : Evn (fun k => (cursor_Block.f k b).bind fun t270 => ((casketref03_Blocked.f k b).bind fun t273 => ((casketlaw03_same.f k t270 t273).bind fun t276 => (some t276)))) true := by
    refine Evn.bind (Block_ev b (by omega)) (Evn.bind (rBlocked_ev b (by omega)) (Evn.bind (same_ev _ _ (by rw [List.length_append]; omega)) ((Evn.pure _).eq (by simp))))
  by_cases c1 : n < 0 ∨ 8 < n
  · refine Evn.bind (Fix_bad v n c1) (Evn.bind (rFix_bad v n c1) (Evn.bind (same_ev [] [] (by simp)) (Evn.pos (by simp) hrest)))
  · obtain ⟨m, rfl⟩ := Int.eq_ofNat_of_zero_le (show 0 ≤ n by omega)
    refine Evn.bind (Fix_ev v m (by omega)) (Evn.bind (rFix_ev v m (by omega)) (Evn.bind (same_ev (fixB m v) _ (by rw [fixB_length]; omega)) (Evn.pos (by simp) hrest)))

end Go.Proofs.Ytcfkljhdjoepkaa.Pure
