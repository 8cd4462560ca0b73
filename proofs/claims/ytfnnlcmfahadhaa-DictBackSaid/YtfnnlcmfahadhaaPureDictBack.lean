/- For all lists of up to 300 numbers, every place and every byte: there and back; cut off it is too short; with a byte more it is refused. No condition. -/
import Derived.Test.YtfnnlcmfahadhaaDicL
import Derived.Test.YtfnnlcmfahadhaaPx13
namespace Go.Proofs.Ytfnnlcmfahadhaa.Pure
open Go.RowKit Go.Proofs.Ytfnnlcmfahadhaa.P Go.Proofs.Ytfnnlcmfahadhaa.Kit Go.Proofs.Ytfnnlcmfahadhaa.Var Go.Proofs.Ytfnnlcmfahadhaa.DicP Go.Proofs.YtfnnlcmfahadhaaW.PrintWords Go.Proofs.YtfnnlcmfahadhaaW.PrintLast Go.Proofs.YtfnnlcmfahadhaaW.PrintMore
set_option linter.unusedVariables false
theorem mask12 (a : Int) : Go.bits .and .i64 a 4095 = ((a % 4096).toNat : Int) := by
  have h := and_mask a 12 (by omega)
  rw [show (2 : Int) ^ 12 = 4096 by decide] at h
  rw [show (4095 : Int) = 4096 - 1 by decide, h]
  omega
theorem DictBack : casketlaw10_DictBack.Pure := by
  intro l a1 a2 hm h8 hl h1 h2
  have hu := u64_of hl
  have hx := wfu8 h2
  refine Evn.get (g := fun k => casketlaw10_DictBack.f k l a1 a2) ?_
  unfold casketlaw10_DictBack.f
  refine Evn.bind awake_ev ?_
  by_cases c0 : (l.length : Int) > 300
  · exact Evn.pos c0 (Evn.pure _)
  · have hE : dict_Encode.f l = some (dEncB l, 0) := by rw [Enc_f hu (by omega), dEnc_ok (by omega)]
    have hby := enc_by l
    have hlen := enc_len (l := l) (by omega)
    have hD := Dec_ev hby (by omega) (l.length : Int)
    rw [dec_back hu (by omega)] at hD
    refine Evn.neg c0 (Evn.bindc hE (Evn.bind hD (Evn.pos rfl (Evn.pos rfl (Evn.bind (same_ev l l (by omega)) (Evn.round ?_))))))
    rw [decide_eq_true rfl]
    simp only [casketlaw10_DictBack.j0, mask12]
    have hby0 : Bytes (dEncB l ++ [a2]) := hby.append (fun x hx => by rw [List.mem_singleton] at hx; omega)
    have hM := Dec_ev hby0 (by rw [List.length_append, List.length_singleton]; omega) (l.length : Int)
    rw [dec_more hu (by omega)] at hM
    have tail : Evn (fun k => (some (([] : List Int) : List Int)).bind fun y379 => (if y379.length + (dEncB l).length < 140737488355328 then ((some (y379 ++ dEncB l : List Int)).bind fun y382 => (if y382.length < 140737488355328 then ((dict_Decode.f k (y382 ++ [a2]) (l.length : Int)).bind fun bt388 => (if true = true then (some (bt388.2 == 3)) else (some false))) else (none))) else (none))) true := by
      refine Evn.bindc rfl (Evn.pos (by rw [List.length_nil]; omega) (Evn.bindc rfl (Evn.pos (by rw [List.nil_append]; omega) ?_)))
      rw [List.nil_append]
      exact Evn.bind hM (Evn.pos (by trivial) (Evn.pure _))
    refine Evn.neg (by decide) ?_
    by_cases c1 : (((a1 % 4096).toNat : Nat) : Int) < ((dEncB l).length : Int)
    · have hC := Dec_ev (hby.take (a1 % 4096).toNat) (by rw [List.length_take]; omega) (l.length : Int)
      have hC2 := dec_cut hu (by omega) (a1 % 4096).toNat (by omega)
      refine Evn.pos c1 (Evn.pos (by omega) (Evn.pos (by omega) ?_))
      rw [Int.toNat_natCast]
      exact Evn.bind hC (Evn.pos hC2 tail)
    · exact Evn.neg c1 tail
end Go.Proofs.Ytfnnlcmfahadhaa.Pure
