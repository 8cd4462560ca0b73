/- Put together: Px3. -/
import Derived.Test.YthggdomocichdaaGreatDoorZ5
set_option maxRecDepth 100000
set_option linter.unusedVariables false
set_option linter.unusedSimpArgs false
namespace Go.Proofs.YthggdomocichdaaGreatDoor.P
open Go.RowKit Go.Proofs.YthggdomocichdaaGreatDoorW.PrintWords Go.Proofs.YthggdomocichdaaGreatDoorW.PrintLast Go.Proofs.YthggdomocichdaaGreatDoorW.PrintMore
attribute [local go_sem] awq awz aCq aCz azk azq aFz aEk
def intcodec_often.f (a0:Int):Option (Int):=if a0=0 then(some 0)else(if a0=3 then(some 2)else(if a0=4 then(some 2)else(some 1)))
set_option maxHeartbeats 8000000 in
theorem intcodec_often.calls (a0:Int)(r:Int)(w:World)(h:intcodec_often.f a0=some r) :
  Calls Tryz.prog 147 #[.int .i64 a0] w fun e w'=>e=.returned (.int .i64 r)∧Drawn0 w w':=by
 have H:(if a0=0 then(some 0)else(if a0=3 then(some 2)else(if a0=4 then(some 2)else(some 1))))=some r:=h
 clear h
 by_cases c2:a0=0
 ·rw [if_pos c2]at H
  have c2b0:(a0 == 0)=true:=beq_iff_eq.mpr c2
  have c2b1:(a0 != 0)=false:=bne_eq_false_iff_eq.mpr c2
  clear c2
  obtain rfl:=Option.some.inj H
  go_enter Tryz.func147,Tryz.ntmps147
  go_wp2
  go_ret
  exact⟨by first|rfl|(simp;done)|(simp [*];done),by repeat(first|exact Drawn0.refl _|apply Drawn0.step)⟩
 ·rw [if_neg c2]at H
  have c2b0:(a0 == 0)=false:=beq_eq_false_iff_ne.mpr c2
  have c2b1:(a0 != 0)=true:=bne_iff_ne.mpr c2
  by_cases c3:a0=3
  ·rw [if_pos c3]at H
   have c3b0:(a0 == 3)=true:=beq_iff_eq.mpr c3
   have c3b1:(a0 != 3)=false:=bne_eq_false_iff_eq.mpr c3
   clear c3
   obtain rfl:=Option.some.inj H
   go_enter Tryz.func147,Tryz.ntmps147
   go_wp2
   go_ret
   exact⟨by first|rfl|(simp;done)|(simp [*];done),by repeat(first|exact Drawn0.refl _|apply Drawn0.step)⟩
  ·rw [if_neg c3]at H
   have c3b0:(a0 == 3)=false:=beq_eq_false_iff_ne.mpr c3
   have c3b1:(a0 != 3)=true:=bne_iff_ne.mpr c3
   by_cases c4:a0=4
   ·rw [if_pos c4]at H
    have c4b0:(a0 == 4)=true:=beq_iff_eq.mpr c4
    have c4b1:(a0 != 4)=false:=bne_eq_false_iff_eq.mpr c4
    clear c4
    obtain rfl:=Option.some.inj H
    go_enter Tryz.func147,Tryz.ntmps147
    go_wp2
    go_ret
    exact⟨by first|rfl|(simp;done)|(simp [*];done),by repeat(first|exact Drawn0.refl _|apply Drawn0.step)⟩
   ·rw [if_neg c4]at H
    have c4b0:(a0 == 4)=false:=beq_eq_false_iff_ne.mpr c4
    have c4b1:(a0 != 4)=true:=bne_iff_ne.mpr c4
    obtain rfl:=Option.some.inj H
    go_enter Tryz.func147,Tryz.ntmps147
    go_wp2
    go_ret
    exact⟨by first|rfl|(simp;done)|(simp [*];done),by repeat(first|exact Drawn0.refl _|apply Drawn0.step)⟩
def varint_Zig.f (a0:Int):Option (Int):=some (Go.bits .xor .u64 (IntKind.u64.wrap ((IntKind.u64.wrap (a0))*2)) (IntKind.u64.wrap (a0/9223372036854775808)))
set_option maxHeartbeats 8000000 in
theorem varint_Zig.calls (a0:Int)(r:Int)(w:World)(h:varint_Zig.f a0=some r) :
  Calls Tryz.prog 148 #[.int .i64 a0] w fun e w'=>e=.returned (.int .u64 r)∧Drawn0 w w':=by
 have H:(some (Go.bits .xor .u64 (IntKind.u64.wrap ((IntKind.u64.wrap (a0))*2)) (IntKind.u64.wrap (a0/9223372036854775808))))=some r:=h
 clear h
 obtain rfl:=Option.some.inj H
 go_enter Tryz.func148,Tryz.ntmps148
 go_wp2
 go_ret
 exact⟨by first|rfl|(simp;done)|(simp [*];done),by repeat(first|exact Drawn0.refl _|apply Drawn0.step)⟩
end Go.Proofs.YthggdomocichdaaGreatDoor.P
