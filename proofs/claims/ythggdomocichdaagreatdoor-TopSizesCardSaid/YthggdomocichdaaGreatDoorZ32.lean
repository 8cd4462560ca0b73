/- Put together: RunsE. -/
import Derived.Test.YthggdomocichdaaGreatDoorZ18
set_option linter.unusedVariables false
set_option linter.unusedSimpArgs false
namespace Go.Proofs.YthggdomocichdaaGreatDoor.Runs
open Go.RowKit Go.Proofs.YthggdomocichdaaGreatDoor.P Go.Proofs.YthggdomocichdaaGreatDoor.Kit Go.Proofs.YthggdomocichdaaGreatDoor.Var Go.Proofs.YthggdomocichdaaGreatDoorW.PrintWords Go.Proofs.YthggdomocichdaaGreatDoorW.PrintLast Go.Proofs.YthggdomocichdaaGreatDoorW.PrintMore
def Us (l:List Int):Prop := ∀ x∈l,0≤x∧x<18446744073709551616
theorem Us.tail {a:Int}{l:List Int}(h:Us (a :: l)):Us l:=fun x hx=>h x (List.mem_cons_of_mem _ hx)
theorem Us.head {a:Int}{l:List Int}(h:Us (a :: l)):0≤a∧a<18446744073709551616:=h a List.mem_cons_self
def enc : Nat→List Int→List Int
 | _,[]=>[]
 |n,[v]=>vn v.toNat++vn n
 |n,v :: u :: t=>if u=v then enc (n+1) (u :: t)else vn v.toNat++vn n++enc 0 (u :: t)
theorem b2q : ∀ (l:List Int) (n:Nat),Us l→n+l.length<18446744073709551616→(enc n l).length≤20*l.length
 | [],_,_,_=>by simp [enc]
 | [v],n,hu,hn=>by
  have h1:=avk v.toNat (by have:=hu.head;omega)
  have h2:=avk n (by simp at hn;omega)
  simp only [enc,List.length_append,List.length_cons,List.length_nil]
  omega
 |v :: u :: t,n,hu,hn=>by
  have ih:=fun m=>b2q (u :: t) m hu.tail
  rw [enc]
  have h1:=avk v.toNat (by have:=hu.head;omega)
  have h2:=avk n (by simp at hn;omega)
  split
  ·have:=ih (n+1) (by simp at hn ⊢;omega)
   simp at this ⊢
   omega
  ·have:=ih 0 (by simp at hn ⊢;omega)
   simp only [List.length_append,List.length_cons]at this ⊢
   omega
theorem Enc_loop (l:List Int)(hu:Us l)(hl:l.length≤65536)(d:Nat):∀ (i n:Nat) (out:List Int),i+d=l.length→n≤i→out.length≤20*i→Evn (fun k=>runs_Encode.l0 k l out (n:Int) l (l.length:Int) (i:Int)) (out++enc n (l.drop i),0):=by
 induction d with
 |zero=>
  intro i n out hi hn ho
  refine Evn.succ (Evn.pure _) fun k=>?_
  simp only [runs_Encode.l0]
  rw [if_neg (by omega),List.drop_of_length_le (by omega)]
  simp [enc]
 |succ d ih=>
  intro i n out hi hn ho
  have hlt:i<l.length:=by omega
  have hd:l.drop i=rd l (i:Int) :: l.drop (i+1):=by
   rw [List.drop_eq_getElem_cons hlt,aUk,List.getD_eq_getElem?_getD,List.getElem?_eq_getElem hlt]
   rfl
  have hv:=hu _ (aZz l (i:Int) (by omega) (by omega))
  have w1:wrap64 ((i:Int)+1)=((i+1:Nat):Int):=by rw [agq (by omega) (by omega)];rfl
  have hA:out.length+20<140737488355328:=by omega
  have hout2:Evn (fun k=>(varint_Append.f k out (rd l (i:Int))).bind fun t127=>((varint_Append.f k t127 (n:Int)).bind fun t130=>(runs_Encode.l0 k l t130 0 l (l.length:Int) ((i+1:Nat):Int)))) (out++vn (rd l (i:Int)).toNat++vn n++enc 0 (l.drop (i+1)),0):=by
   have h1:=avk (rd l (i:Int)).toNat (by omega)
   have h2:=avk n (by omega)
   refine Evn.bind (bfk out _ (by omega) hv.1 hv.2) ?_
   refine Evn.bind (biz _ n (by rw [List.length_append];omega) (by omega)) ?_
   exact ih (i+1) 0 _ (by omega) (by omega) (by simp only [List.length_append];omega)
  by_cases h2:i+1<l.length
  ·have hd2:l.drop (i+1)=rd l ((i+1:Nat):Int) :: l.drop (i+2):=by
    rw [List.drop_eq_getElem_cons h2,aUk,List.getD_eq_getElem?_getD,List.getElem?_eq_getElem h2]
    rfl
   by_cases he:rd l ((i+1:Nat):Int)=rd l (i:Int)
   ·refine Evn.succ (G:=fun k=>runs_Encode.j1 k l out (n:Int) (rd l (i:Int)) l (l.length:Int) (i:Int) true) ?_ fun k=>?_
    ·have hih:=ih (i+1) (n+1) out (by omega) (by omega) (by omega)
     rw [hd,hd2,enc,if_pos he,←hd2]
     refine Evn.succ hih fun k=>?_
     simp only [runs_Encode.j1]
     rw [if_pos trivial,w1,aOq _ (by omega) (by omega)]
     rfl
    ·simp only [runs_Encode.l0]
     rw [if_pos (by omega),if_pos (by omega),if_pos (by omega),w1,if_pos (by omega),if_pos (by omega),he]
     simp
   ·refine Evn.succ (G:=fun k=>runs_Encode.j1 k l out (n:Int) (rd l (i:Int)) l (l.length:Int) (i:Int) false) ?_ fun k=>?_
    ·rw [hd,hd2,enc,if_neg he,←hd2,←List.append_assoc,←List.append_assoc]
     refine Evn.succ hout2 fun k=>?_
     simp only [runs_Encode.j1]
     rw [if_neg (by decide),w1]
    ·simp only [runs_Encode.l0]
     rw [if_pos (by omega),if_pos (by omega),if_pos (by omega),w1,if_pos (by omega),if_pos (by omega),beq_eq_false_iff_ne.mpr he]
  ·refine Evn.succ (G:=fun k=>runs_Encode.j1 k l out (n:Int) (rd l (i:Int)) l (l.length:Int) (i:Int) false) ?_ fun k=>?_
   ·have hd2:l.drop (i+1)=[]:=List.drop_of_length_le (by omega)
    rw [hd,hd2,enc]
    rw [hd2,enc,List.append_nil,List.append_assoc]at hout2
    refine Evn.succ hout2 fun k=>?_
    simp only [runs_Encode.j1]
    rw [if_neg (by decide),w1]
   ·simp only [runs_Encode.l0]
    rw [if_pos (by omega),if_pos (by omega),if_pos (by omega),w1,if_neg (by omega)]
theorem Enc_ev (l:List Int)(hu:Us l)(hl:l.length≤65536):Evn (fun k=>runs_Encode.f k l) (enc 0 l,0):=by
 unfold runs_Encode.f
 refine Evn.neg (by omega) ?_
 have:=Enc_loop l hu hl l.length 0 0 [] (by omega) (by omega) (by simp)
 simpa using this
end Go.Proofs.YthggdomocichdaaGreatDoor.Runs
