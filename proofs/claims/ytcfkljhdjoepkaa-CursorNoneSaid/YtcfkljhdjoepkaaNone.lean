/- The law CursorNone: the walk by hand. -/
import Derived.Test.YtcfkljhdjoepkaaPx4
import Derived.Test.YtcfkljhdjoepkaaCurL
import Derived.OneCell
import Derived.RegionTactic
import Derived.BigRegion
import Derived.Outline
import Derived.Deep.QuietTactic
import Derived.BigQuiet
namespace Go.Proofs.Ytcfkljhdjoepkaa.P
open Go.RowKit Go.Proofs.Ytcfkljhdjoepkaa.Kit Go.Proofs.Ytcfkljhdjoepkaa.Var Go.Proofs.YtcfkljhdjoepkaaW.PrintWords Go.Proofs.YtcfkljhdjoepkaaW.PrintLast Go.Proofs.YtcfkljhdjoepkaaW.PrintMore
set_option linter.unusedVariables false
set_option linter.unusedSimpArgs false

/-- Nothing plain is left to show. -/
def casketlaw03_CursorNone.Pure : Prop := True
theorem casketlaw03_CursorNone.walk (P : casketlaw03_CursorNone.Pure) (a0 : Int) (w : World) (w0 : (Lit.int .i64 a0).wf = true) :
    Calls Try.prog 8 #[.int .i64 a0] w fun e w' => e = .returned (.bool true) ∧ Below w.heap.size w w' := by
  obtain ⟨k, hk⟩ := CurL.awake_ev.get
  have HA := Aside0.mk (casketlaw03_awake.calls k true w hk)
  clear hk w0
  go_enter Try.func8, Try.ntmps8
  go_wp2_with (first
    | (go_at_call 9; refine HA.out.mono ?_; rintro e w1 ⟨rfl, hb⟩; have HB := Aside0.mk hb; clear hb)
    | (go_at_call 21; refine (Byte_none _).mono ?_; rintro e w2 ⟨rfl, ⟨n2, rfl⟩⟩)
    | (go_at_call 15; refine (Fixed_none _ _).mono ?_; rintro e w2 ⟨rfl, ⟨n3, rfl⟩⟩)
    | (go_at_call 24; refine (Varint_none _).mono ?_; rintro e w2 ⟨rfl, ⟨n4, rfl⟩⟩)
    | (go_at_call 14; refine (Bytes_none _ _).mono ?_; rintro e w2 ⟨rfl, ⟨n5, rfl⟩⟩)
    | (go_at_call 12; refine (Block_none _ _).mono ?_; rintro e w2 ⟨rfl, ⟨n6, rfl⟩⟩)
    | (go_at_call 13; refine (Left_none _).mono ?_; rintro e w2 ⟨rfl, ⟨n7, rfl⟩⟩)
    | (go_at_call 20; refine (End_none _).mono ?_; rintro e w2 ⟨rfl, ⟨n8, rfl⟩⟩))
  go_ret
  exact ⟨rfl, by repeat (first | exact HB.out | apply pw_below_drewN | apply below_drew1)⟩
end Go.Proofs.Ytcfkljhdjoepkaa.P
