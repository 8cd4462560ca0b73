/- For all lists of up to 300 patterns, every place and every byte: there and back; cut off it is too short; with a byte more it is refused. No condition. -/
import Derived.Test.YtfpnoceppjjafaaDoorGback
import Derived.Test.YtfpnoceppjjafaaDoorPx6
namespace Go.Proofs.YtfpnoceppjjafaaDoor.Pure
open Go.RowKit Go.Proofs.YtfpnoceppjjafaaDoor.P Go.Proofs.YtfpnoceppjjafaaDoor.Kit Go.Proofs.YtfpnoceppjjafaaDoor.Var Go.Proofs.YtfpnoceppjjafaaDoorW.PrintWords Go.Proofs.YtfpnoceppjjafaaDoorW.PrintLast Go.Proofs.YtfpnoceppjjafaaDoorW.PrintMore
set_option linter.unusedVariables false
theorem mask12 (a : Int) : Go.bits .and .i64 a 4095 = ((a % 4096).toNat : Int) := by
  have h := and_mask a 12 (by omega)
  rw [show (2 : Int) ^ 12 = 4096 by decide] at h
  rw [show (4095 : Int) = 4096 - 1 by decide, h]
  omega
theorem GorillaBack : casketlaw09_GorillaBack.Pure := by
  intro l a1 a2 hm h8 hl h1 h2
  have hu := u_of hl
  have hx := wfu8 h2
  refine Evn.get (g := fun k => casketlaw09_GorillaBack.f k l a1 a2) ?_
  unfold casketlaw09_GorillaBack.f
  refine Evn.bind awake_ev ?_
  by_cases c0 : (l.length : Int) > 300
  · exact Evn.pos c0 (Evn.pure _)
  · have hl3 : l.length ≤ 65536 := by omega
    have hby : isBy (gEnc l).1 := by rw [gEnc_of hl3]; exact pack_by (gB_01 _ _)
    have hlen := gEnc_len hu
    have he0 : (gEnc l).2 = 0 := by rw [gEnc_of hl3]
    have hD := Dec_f hby (by omega) (l.length : Int)
    rw [dec_back hu hl3] at hD
    refine Evn.neg c0 (Evn.bindc (Enc_f hu (by omega)) (Evn.bindc hD (Evn.pos he0 (Evn.pos rfl (Evn.bind (gsame_ev l l (by omega)) (Evn.round ?_))))))
    rw [decide_eq_true rfl]
    simp only [casketlaw09_GorillaBack.j0, mask12]
    have hby0 : isBy ((gEnc l).1 ++ [a2]) := fun x hx' => by
      rcases List.mem_append.1 hx' with h | h
      · exact hby x h
      · rw [List.mem_singleton.1 h]; exact hx
    have hM := Dec_f hby0 (by rw [List.length_append, List.length_singleton]; omega) (l.length : Int)
    rw [dec_more hu hl3] at hM
    have tail : Evn (fun k => (some (([] : List Int) : List Int)).bind fun y379 => (if y379.length + (gEnc l).1.length < 140737488355328 then ((some (y379 ++ (gEnc l).1 : List Int)).bind fun y382 => (if y382.length < 140737488355328 then ((gorilla_Decode.f (y382 ++ [a2]) (l.length : Int)).bind fun bt388 => (if true = true then (some (bt388.2 == 3)) else (some false))) else (none))) else (none))) true := by
      refine Evn.bindc rfl (Evn.pos (by rw [List.length_nil]; omega) (Evn.bindc rfl (Evn.pos (by rw [List.nil_append]; omega) ?_)))
      rw [List.nil_append]
      exact Evn.bindc hM (Evn.pos (by trivial) (Evn.pure _))
    refine Evn.neg (by decide) ?_
    by_cases c1 : (((a1 % 4096).toNat : Nat) : Int) < ((gEnc l).1.length : Int)
    · have hC := Dec_f (b := (gEnc l).1.take (a1 % 4096).toNat) (fun x hx' => hby x (List.mem_of_mem_take hx')) (by rw [List.length_take]; omega) (l.length : Int)
      have hC2 := dec_cut hu hl3 (k := (a1 % 4096).toNat) (by omega)
      refine Evn.pos c1 (Evn.pos (by omega) (Evn.pos (by omega) ?_))
      rw [Int.toNat_natCast]
      exact Evn.bindc hC (Evn.pos hC2 tail)
    · exact Evn.neg c1 tail
end Go.Proofs.YtfpnoceppjjafaaDoor.Pure
