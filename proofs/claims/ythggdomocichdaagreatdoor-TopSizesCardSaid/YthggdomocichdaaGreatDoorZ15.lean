/- Put together: Px5. -/
import Derived.Test.YthggdomocichdaaGreatDoorZ5
set_option maxRecDepth 100000
set_option linter.unusedVariables false
set_option linter.unusedSimpArgs false
namespace Go.Proofs.YthggdomocichdaaGreatDoor.P
open Go.RowKit Go.Proofs.YthggdomocichdaaGreatDoorW.PrintWords Go.Proofs.YthggdomocichdaaGreatDoorW.PrintLast Go.Proofs.YthggdomocichdaaGreatDoorW.PrintMore
attribute [local go_sem] awq awz aCq aCz azk azq aFz aEk
def bits_wrong.f (a0:Int):Option (Bool):=if a0<0 then(some true)else(some (decide (a0 > 64)))
set_option maxHeartbeats 8000000 in
theorem bits_wrong.calls (a0:Int)(r:Bool)(w:World)(h:bits_wrong.f a0=some r) :
  Calls Tryz.prog 292 #[.int .i64 a0] w fun e w'=>e=.returned (.bool r)∧Drawn0 w w':=by
 have H:(if a0<0 then(some true)else(some (decide (a0 > 64))))=some r:=h
 clear h
 by_cases c2:a0<0
 ·rw [if_pos c2]at H
  have c2b0:decide (a0<0)=true:=decide_eq_true c2
  clear c2
  obtain rfl:=Option.some.inj H
  go_enter Tryz.func292,Tryz.ntmps292
  go_wp2
  go_ret
  exact⟨by first|rfl|(simp;done)|(simp [*];done),by repeat(first|exact Drawn0.refl _|apply Drawn0.step)⟩
 ·rw [if_neg c2]at H
  have c2b0:decide (a0<0)=false:=decide_eq_false c2
  clear c2
  obtain rfl:=Option.some.inj H
  go_enter Tryz.func292,Tryz.ntmps292
  go_wp2
  go_ret
  exact⟨by first|rfl|(simp;done)|(simp [*];done),by repeat(first|exact Drawn0.refl _|apply Drawn0.step)⟩
end Go.Proofs.YthggdomocichdaaGreatDoor.P
