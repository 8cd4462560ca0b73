/- Put together: Fix. -/
import Derived.Test.YthggdomocichdaaGreatDoorZ10
set_option linter.unusedVariables false
set_option linter.unusedSimpArgs false
namespace Go.Proofs.YthggdomocichdaaGreatDoor.Var
open Go.RowKit Go.Proofs.YthggdomocichdaaGreatDoor.P Go.Proofs.YthggdomocichdaaGreatDoor.Kit Go.Proofs.YthggdomocichdaaGreatDoorW.PrintWords Go.Proofs.YthggdomocichdaaGreatDoorW.PrintLast Go.Proofs.YthggdomocichdaaGreatDoorW.PrintMore
def fixB : Nat→Int→List Int
 | 0,_=>[]
 |k+1,v=>v/2 ^ (8*k)%256 :: fixB k v
theorem ank (v:Int):∀ k,(fixB k v).length=k
 | 0=>rfl
 |k+1=>by rw [fixB,List.length_cons,ank v k]
theorem b2z (v:Int):∀ k,∀ x∈fixB k v,0≤x∧x<256
 | 0,x,hx=>by cases hx
 |k+1,x,hx=>by
  rw [fixB]at hx
  rcases List.mem_cons.mp hx with h|h
  ·subst h
   omega
  ·exact b2z v k x h
theorem shr_at (v:Int)(k:Nat)(hk:k≤8):shr .u64 v ((8*k:Nat):Int)=v/2 ^ (8*k):=by
 show v/2 ^ min (((8*k:Nat):Int)).toNat 64=_
 rw [Int.toNat_natCast,Nat.min_eq_left (by omega)]
theorem Fix_loop (v:Int)(n:Nat)(hn:n≤8)(d:Nat):∀ i,i+d=n→Evn (fun k=>cursor_Fix.l0 k v (n:Int) (List.replicate (n-i) 0++fixB i v) (n:Int) (i:Int)) (fixB n v):=by
 induction d with
 |zero=>
  intro i hi
  have hi:i=n:=by omega
  subst hi
  refine Evn.round ?_
  simp only [cursor_Fix.l0]
  refine Evn.neg (by omega) ?_
  rw [Nat.sub_self,List.replicate_zero,List.nil_append]
  exact Evn.pure _
 |succ d ih=>
  intro i hi
  have w1:wrap64 (8*(i:Int))=((8*i:Nat):Int):=by rw [agq (by omega) (by omega)];omega
  have w2:wrap64 ((n:Int)-1)=(n:Int)-1:=agq (by omega) (by omega)
  have w3:wrap64 ((n:Int)-1-(i:Int))=((n-i-1:Nat):Int):=by rw [agq (by omega) (by omega)];omega
  have w4:wrap64 ((i:Int)+1)=((i+1:Nat):Int):=by rw [agq (by omega) (by omega)];rfl
  refine Evn.round ?_
  simp only [cursor_Fix.l0,w1,w2,w3,w4]
  refine Evn.pos (by omega) (Evn.pos (by omega) (Evn.pos (by omega) (Evn.pos (by rw [List.length_append,List.length_replicate,ank];omega) ?_)))
  rw [shr_at v i (by omega),Int.toNat_natCast,show n-i=(n-i-1)+1 by omega,List.replicate_succ',List.append_assoc,List.singleton_append,set_mid _ _ _ _ _ (by simp)]
  have:=ih (i+1) (by omega)
  rw [fixB,show n-(i+1)=n-i-1 by omega]at this
  exact this
theorem bSk (v:Int)(n:Nat)(hn:n≤8):Evn (fun k=>cursor_Fix.f k v (n:Int)) (fixB n v):=by
 unfold cursor_Fix.f
 refine Evn.neg (by omega) (Evn.round ?_)
 simp only [cursor_Fix.j0]
 refine Evn.neg (by simp;omega) (Evn.pos (by omega) (Evn.pos (by omega) (Evn.bik rfl ?_)))
 rw [Int.toNat_natCast,List.length_replicate]
 have:=Fix_loop v n hn n 0 (by omega)
 rw [Nat.sub_zero,fixB,List.append_nil]at this
 exact this
end Go.Proofs.YthggdomocichdaaGreatDoor.Var
