/- For every list of ints and every number: with the same added to all (they may go round) Diff by 1 stays behind the first; with each by -1 it is the other way (lists of at most 1000). No condition. -/
import Derived.Test.YtlpejnkpkcnkmaaPlain
import Derived.Test.YtlpejnkpkcnkmaaPx7
namespace Go.Proofs.Ytlpejnkpkcnkmaa.Pure
open Go.RowKit Go.Proofs.Ytlpejnkpkcnkmaa.P Go.Proofs.Ytlpejnkpkcnkmaa.Kit Go.Proofs.Ytlpejnkpkcnkmaa.Plain Go.Proofs.YtlpejnkpkcnkmaaW.PrintWords Go.Proofs.YtlpejnkpkcnkmaaW.PrintLast Go.Proofs.YtlpejnkpkcnkmaaW.PrintMore
set_option linter.unusedVariables false
set_option linter.unusedSimpArgs false

theorem rd_map (f : Int → Int) (x : List Int) (i : Int) (h0 : 0 ≤ i) (h : i < (x.length : Int)) : rd (x.map f) i = f (rd x i) := by
  have h1 : i.toNat < x.length := by omega
  simp [rd, List.getD_eq_getElem?_getD, List.getElem?_eq_getElem h1]
theorem moves_end (x a b c : List Int) (ha : a.length = x.length) (hb : b.length = x.length) (hc : c.length = x.length) (hs : x.length < 17592186044416) (h : ∀ i : Nat, 1 ≤ i → i < x.length → rd a (i : Int) = rd b (i : Int) ∧ rd c (i : Int) = wrap64 (-(rd a (i : Int)))) (d i : Nat) (h1 : 1 ≤ i) (hi : i + d = max i x.length) : Evn (fun k => casketlaw04_DeltaMoves.l1 k x true a b c (i : Int)) true := by
  induction d generalizing i with
  | zero =>
    refine Evn.succ (Evn.pure _) fun k => ?_
    simp only [casketlaw04_DeltaMoves.l1]
    rw [if_neg (by omega)]
  | succ d ih =>
    refine Evn.succ (ih (i + 1) (by omega) (by omega)) fun k => ?_
    obtain ⟨e1, e2⟩ := h i h1 (by omega)
    simp only [casketlaw04_DeltaMoves.l1]
    rw [if_pos (by omega), if_pos (by omega), if_pos (by omega), if_pos (by omega), if_pos e1, if_pos (by omega), if_pos e2, show wrap64 ((i : Int) + 1) = ((i + 1 : Nat) : Int) by unfold wrap64; omega]
theorem moves_loop (x : List Int) (by_ : Int) (hs : x.length < 17592186044416) (hw : Wf x) (d i : Nat) (hi : i + d = x.length) :
    Evn (fun k => casketlaw04_DeltaMoves.l0 k x by_ true ((x.take i).map fun v => wrap64 (v + by_)) ((x.take i).map fun v => wrap64 (-v)) (i : Int)) true := by
  induction d generalizing i with
  | zero =>
    have hi2 : x.take i = x := List.take_of_length_le (by omega)
    rw [hi2]
    refine Evn.succ (G := fun k => casketlaw04_DeltaMoves.j1 k x true (D 1 x) (D 1 (x.map fun v => wrap64 (v + by_))) (D 1 (x.map fun v => wrap64 (-v))) false) ?_ fun k => ?_
    · refine Evn.succ (moves_end x (D 1 x) (D 1 (x.map fun v => wrap64 (v + by_))) (D 1 (x.map fun v => wrap64 (-v))) (D_length _ _) (by rw [D_length, List.length_map]) (by rw [D_length, List.length_map]) hs (fun j h1 hj => ?_) (x.length - 1) 1 (by omega) (by omega)) fun k => ?_
      · have e : ∀ y : List Int, y.length = x.length → rd (D 1 y) (j : Int) = wrap64 (rd y (j : Int) - rd y ((j : Int) - 1)) := fun y hy => by
          rw [show D 1 y = Pd 0 y from rfl, rd_Pd 0 y j (by omega), if_neg (by omega)]
        rw [e x rfl, e _ (by simp), e _ (by simp), rd_map _ _ _ (by omega) (by omega), rd_map _ _ _ (by omega) (by omega), rd_map _ _ _ (by omega) (by omega), rd_map _ _ _ (by omega) (by omega)]
        generalize rd x (j : Int) = p
        generalize rd x ((j : Int) - 1) = q
        constructor <;> (unfold wrap64; omega)
      · simp only [casketlaw04_DeltaMoves.j1]
        rw [if_neg (by simp)]
        rfl
    · simp only [casketlaw04_DeltaMoves.l0]
      rw [if_neg (by omega), Diff_eq x 1 (by omega) (by omega) hs, Option.bind_some, Diff_eq _ 1 (by omega) (by omega) (by simpa using hs), Option.bind_some, Diff_eq _ 1 (by omega) (by omega) (by simpa using hs), Option.bind_some, if_pos (by simp [D_length]), if_pos (by simp [D_length])]
      congr 1
      simp [D_length]
  | succ d ih =>
    refine Evn.succ (ih (i + 1) (by omega)) fun k => ?_
    simp only [casketlaw04_DeltaMoves.l0]
    rw [if_pos (by omega), if_pos (by omega), if_pos (by simp; omega), if_pos (by simp; omega), show wrap64 ((i : Int) + 1) = ((i + 1 : Nat) : Int) by unfold wrap64; omega, take_rd x i (by omega)]
    simp
theorem DeltaMoves : casketlaw04_DeltaMoves.Pure := by
  intro l a hm h8 hw ha
  refine Evn.get (g := fun k => casketlaw04_DeltaMoves.f k l a) ?_
  unfold casketlaw04_DeltaMoves.f
  refine Evn.bind awake_ev ?_
  by_cases h : (l.length : Int) > 1000
  · exact Evn.pos h (Evn.pure _)
  · refine Evn.neg h ?_
    exact moves_loop l a (by omega) hw l.length 0 (by omega)

end Go.Proofs.Ytlpejnkpkcnkmaa.Pure
