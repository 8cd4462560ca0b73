/- For all bytes and all widths (at most 300 of each are looked at): what the reader tells is what the document says. No condition. -/
import Derived.Test.YtjpepmnkiicgoaaBitL
import Derived.Test.YtjpepmnkiicgoaaPx8
namespace Go.Proofs.Ytjpepmnkiicgoaa.Pure
open Go.RowKit Go.Proofs.Ytjpepmnkiicgoaa.P Go.Proofs.Ytjpepmnkiicgoaa.Kit Go.Proofs.Ytjpepmnkiicgoaa.Var Go.Proofs.Ytjpepmnkiicgoaa.BitL Go.Proofs.YtjpepmnkiicgoaaW.PrintWords Go.Proofs.YtjpepmnkiicgoaaW.PrintLast Go.Proofs.YtjpepmnkiicgoaaW.PrintMore
set_option linter.unusedVariables false
set_option linter.unusedSimpArgs false

theorem reads_loop (ws : List Int) (hw : ws.length < 140737488355328) (d : Nat) : ∀ (i : Nat) (l : List Int), i + d = ws.length → is01 l → Evn (fun k => casketlaw01_BitsReads.l0 k ws true l (i : Int) l) true := by
  induction d with
  | zero =>
    intro i l hi h01
    refine Evn.round ?_
    simp only [casketlaw01_BitsReads.l0]
    refine Evn.neg (by omega) (Evn.pos trivial ?_)
    unfold bits_Reader_End.f
    refine Evn.bindc rfl (Evn.bind (rEnd_ev l) ?_)
    exact (Evn.pure _).eq (by simp)
  | succ d ih =>
    intro i l hi h01
    have e1 : wrap64 ((i : Int) + 1) = ((i + 1 : Nat) : Int) := by
      rw [wrap64_id (by omega) (by omega)]
      omega
    have h2 := ih (i + 1) (rGet2 l (rd ws (i : Int))).2.1 (by omega) (rGet2_01 _ h01)
    refine Evn.round ?_
    simp only [casketlaw01_BitsReads.l0, e1]
    clear e1
    refine Evn.pos (by omega) (Evn.pos (by omega) ?_)
    unfold bits_Reader_Get.f bits_Reader_Left.f bits_Reader_End.f
    refine Evn.bindc rfl (Evn.bind (rGet_ev l _ h01) ?_)
    rw [rGet_rGet2]
    refine Evn.pos rfl (Evn.pos rfl (Evn.bindc rfl (Evn.pos rfl (Evn.bindc rfl (Evn.bind (rEnd_ev _) (Evn.pos rfl ?_))))))
    exact h2
theorem BitsReads : casketlaw01_BitsReads.Pure := by
  intro b ws hm h8 hb hm2 h82 hw
  have hby : isBy b := fun x hx => wfu8 (hb x hx)
  refine Evn.get (g := fun k => casketlaw01_BitsReads.f k b ws) ?_
  unfold casketlaw01_BitsReads.f
  refine Evn.bindc awake_f ?_
  by_cases c0 : (b.length : Int) > 300
  · refine Evn.pos c0 (Evn.round ?_)
    simp only [casketlaw01_BitsReads.j0]
    exact Evn.pos trivial (Evn.pure _)
  · refine Evn.neg c0 (Evn.round ?_)
    simp only [casketlaw01_BitsReads.j0]
    by_cases c1 : (ws.length : Int) > 300
    · exact Evn.pos (by simp; omega) (Evn.pure _)
    · refine Evn.neg (by simp; omega) (Evn.bindc (New_f b hby (by omega)) (Evn.bind (rOf_ev b hby (by omega)) ?_))
      exact reads_loop ws (by omega) ws.length 0 _ (by omega) (unpack_01 b)
end Go.Proofs.Ytjpepmnkiicgoaa.Pure
