/- What other rows and the cursor leave of each other. -/
import Derived.Test.YtfcllbkjhiendaaCurF
namespace Go.Proofs.Ytfcllbkjhiendaa.P
open Go.RowKit Go.Proofs.Ytfcllbkjhiendaa.Kit Go.Proofs.Ytfcllbkjhiendaa.Var Go.Proofs.YtfcllbkjhiendaaW.PrintWords Go.Proofs.YtfcllbkjhiendaaW.PrintLast Go.Proofs.YtfcllbkjhiendaaW.PrintMore
set_option linter.unusedVariables false

theorem Cu.grown {α : Type} {d : Kd α} {e B base g : Nat} {ok : Nat → Prop} {W W1 : World} {v : Value} {xs : List α} {b : List Int} (h : Cu W B g b) (ho : d.R e W base ok v xs) (he : e ≠ 60) (h5 : ∀ q, q ∈ 5 :: (Kd.int .u8).E → q ≠ e) (hg : W.grownBy W1 v.ownBlock) : Cu W1 B g b := by
  obtain ⟨u, hgb, hb, hq⟩ := h
  exact ⟨u, by rw [hg.block g (lt_of_block hgb) (Kd.R_ne ho hgb he)]; exact hgb, hb, Kd.Q_over' hq (Kd.R_typed ho) h5 hg⟩
theorem R_cur {α : Type} {d : Kd α} {e B base g : Nat} {ok : Nat → Prop} {W W1 : World} {v : Value} {xs : List α} {b : List Int} (ho : d.R e W base ok v xs) (h : Cu W B g b) (ht : ∀ q, q ∈ e :: d.E → q ≠ 60) (hk : Kept W W1 (fun k => k = g)) : d.R e W1 base ok v xs := by
  obtain ⟨u, hgb, hb, hq⟩ := h
  exact Kd.R_mono (Kd.R_step (Kd.R_types ho hgb ht) (fun k ho hlt => hk.2 k hlt ho.2)) (fun _ hk => hk.1)
theorem Cu.below {B g : Nat} {W W1 : World} {b : List Int} (h : Cu W B g b) (hb : Below W.heap.size W W1) : Cu W1 B g b := by
  obtain ⟨v, hg, hbb, hq⟩ := h
  exact ⟨v, blk_below hg hb, hbb, Kd.Q_below hq hb⟩
theorem Cu.alloc {B g : Nat} {W : World} {b : List Int} (h : Cu W B g b) (o : Obj) : Cu (W.alloc o) B g b := h.below (below_alloc (Below.refl _ _) o)
theorem Cu.drewN {B g : Nat} {W : World} {b : List Int} (h : Cu W B g b) (n : Nat) : Cu (W.drewN n) B g b := h.below (pw_below_drewN (Below.refl _ _) n)
theorem Cu.drew1 {B g : Nat} {W : World} {b : List Int} (h : Cu W B g b) : Cu W.drew B g b := h.below (below_drew (Below.refl _ _))
end Go.Proofs.Ytfcllbkjhiendaa.P
