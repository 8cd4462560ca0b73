/- For all lists of numbers (at most 600 are looked at) and every two numbers: what runs.Encode writes is decoded to the same, cut off it is too short, as fewer numbers or with a byte more it is refused. No condition. -/
import Derived.Test.YtdkhnkbhgaobdaaRunsL
import Derived.Test.YtdkhnkbhgaobdaaPx4
namespace Go.Proofs.Ytdkhnkbhgaobdaa.Pure
open Go.RowKit Go.Proofs.Ytdkhnkbhgaobdaa.P Go.Proofs.Ytdkhnkbhgaobdaa.Kit Go.Proofs.Ytdkhnkbhgaobdaa.Var Go.Proofs.Ytdkhnkbhgaobdaa.Runs Go.Proofs.YtdkhnkbhgaobdaaW.PrintWords Go.Proofs.YtdkhnkbhgaobdaaW.PrintLast Go.Proofs.YtdkhnkbhgaobdaaW.PrintMore
set_option linter.unusedVariables false
set_option linter.unusedSimpArgs false

theorem RunsBack : casketlaw07_RunsBack.Pure := by
  intro l a1 a2 hm h8 hl h1 h2
  have hu := us_of hl
  refine Evn.get (g := fun k => casketlaw07_RunsBack.f k l a1 a2) ?_
  unfold casketlaw07_RunsBack.f
  refine Evn.bind awake_ev ?_
  by_cases c0 : (l.length : Int) > 600
  · exact Evn.pos c0 (Evn.pure _)
  have hlen := enc_length l 0 hu (by omega)
  have e1 : Go.bits .and .i64 a1 1023 = a1 % 1024 := and_mask a1 10 (by omega)
  have e2 : Go.bits .and .i64 a2 1023 = a2 % 1024 := and_mask a2 10 (by omega)
  refine Evn.neg c0 (Evn.bind (Enc_ev l hu (by omega)) (Evn.bindc (Dec_f (enc 0 l) _ (enc_bytes l 0) (by omega)) ?_))
  rw [rdec_back l hu (by omega)]
  refine Evn.pos rfl (Evn.pos rfl (Evn.bind (same_ev l l (by omega)) ?_))
  simp only [decide_true, Bool.not_true]
  have hmore : Evn (fun k => (some (([] : List Int) : List Int)).bind fun y275 => (if y275.length + (enc 0 l).length < 140737488355328 then ((some (y275 ++ enc 0 l : List Int)).bind fun y278 => (if y278.length < 140737488355328 then ((runs_Decode.f (y278 ++ [0]) (l.length : Int)).bind fun bt284 => (if true = true then (some (bt284.2 == 3)) else (some false))) else (none))) else (none))) true := by
    refine Evn.bindc rfl (Evn.pos (by simp; omega) (Evn.bindc rfl (Evn.pos (by simp; omega) ?_)))
    rw [List.nil_append]
    refine Evn.bindc (Dec_f _ _ (Bytes.append (enc_bytes l 0) (fun x hx => by simp at hx; omega)) (by simp; omega)) ?_
    rw [rdec_more l hu (by omega)]
    exact Evn.pos rfl (Evn.pure _)
  have hj1 : Evn (fun k => casketlaw07_RunsBack.j1 k l a2 true (enc 0 l)) true := by
    refine Evn.round ?_
    simp only [casketlaw07_RunsBack.j1, e2]
    by_cases c1 : a2 % 1024 < (l.length : Int)
    · refine Evn.pos c1 (Evn.bindc (Dec_f _ _ (enc_bytes l 0) (by omega)) ?_)
      have := rdec_less l hu (by omega) (a2 % 1024).toNat (by omega)
      rw [show (((a2 % 1024).toNat : Nat) : Int) = a2 % 1024 by omega] at this
      rw [this]
      exact Evn.pos (by trivial) hmore
    · exact Evn.neg c1 hmore
  refine Evn.round ?_
  simp only [casketlaw07_RunsBack.j0, e1]
  refine Evn.neg (by simp) ?_
  by_cases c1 : a1 % 1024 < ((enc 0 l).length : Int)
  · refine Evn.pos c1 (Evn.pos (by omega) (Evn.pos (by omega) (Evn.bindc (Dec_f _ _ ((enc_bytes l 0).take _) (by rw [List.length_take]; omega)) ?_)))
    rw [rdec_cut l hu (by omega) (a1 % 1024).toNat (by omega)]
    exact Evn.pos (by trivial) hj1
  · exact Evn.neg c1 hj1
end Go.Proofs.Ytdkhnkbhgaobdaa.Pure
