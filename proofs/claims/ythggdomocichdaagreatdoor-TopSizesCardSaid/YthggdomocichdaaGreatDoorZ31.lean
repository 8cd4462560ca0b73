/- Put together: ForE, Ways, Tsz1. -/
import Derived.Test.YthggdomocichdaaGreatDoorZ32
import Derived.Test.YthggdomocichdaaGreatDoorZ26
set_option linter.unusedVariables false
set_option linter.unusedSimpArgs false
namespace Go.Proofs.YthggdomocichdaaGreatDoor.ForP
open Go.RowKit Go.Proofs.YthggdomocichdaaGreatDoor.P Go.Proofs.YthggdomocichdaaGreatDoor.Kit Go.Proofs.YthggdomocichdaaGreatDoor.Var Go.Proofs.YthggdomocichdaaGreatDoorW.PrintWords Go.Proofs.YthggdomocichdaaGreatDoorW.PrintLast Go.Proofs.YthggdomocichdaaGreatDoorW.PrintMore
theorem bl_half {n:Nat}(h:n≠0)(hn:n<18446744073709551616):Lib.bitLen n=Lib.bitLen (n/2)+1:=by
 rw [Lib.bitLen_half n h hn]
 omega
theorem bl_lt (n:Nat):∀ w,n<18446744073709551616→Lib.bitLen n≤w→n<2 ^ w:=by
 induction n using Nat.strongRecOn with
 | _ n ih=>
  intro w hn h
  rcases Nat.eq_zero_or_pos n with rfl|h0
  ·exact Nat.two_pow_pos w
  ·rw [bl_half (by omega) hn]at h
   obtain⟨m,rfl⟩:∃ m,w=m+1:=⟨w-1,by omega⟩
   have:=ih (n/2) (by omega) m (by omega) (by omega)
   rw [Nat.pow_succ]
   omega
theorem bl_le {n w:Nat}(hw:w≤64)(h:n<2 ^ w):Lib.bitLen n≤w:=Lib.bitLen_le n w hw h
theorem bl_64 {v:Int}(h0:0≤v)(h1:v<18446744073709551616):Lib.bitLen v.toNat≤64:=bl_le (Nat.le_refl _) (by omega)
def U64 (l:List Int):Prop := ∀ x∈l,0≤x∧x<18446744073709551616
theorem stE_facts (l:List Int):∀ k,k≤l.length→(∀ i:Nat,i<k→(stE l k).1≤rd l (i:Int)∧rd l (i:Int)≤(stE l k).2)∧(0<k→(∃ i:Nat,i<k∧(stE l k).1=rd l (i:Int))∧∃ i:Nat,i<k∧(stE l k).2=rd l (i:Int))
 | 0,_=>⟨fun i hi=>by omega,fun h=>by omega⟩
 |k+1,hk=>by
  obtain⟨h1,h2⟩:=stE_facts l k (by omega)
  have hE:stE l (k+1)=(if rd l (k:Int)<(if k=0 then(rd l (k:Int),rd l (k:Int))else stE l k).1 then rd l (k:Int)else(if k=0 then(rd l (k:Int),rd l (k:Int))else stE l k).1,if(if k=0 then(rd l (k:Int),rd l (k:Int))else stE l k).2<rd l (k:Int)then rd l (k:Int)else(if k=0 then(rd l (k:Int),rd l (k:Int))else stE l k).2):=rfl
  by_cases h0:k=0
  ·subst h0
   simp only [if_true,Int.lt_irrefl,if_false]at hE
   rw [hE]
   refine⟨fun i hi=>?_,fun _=>⟨⟨0,by omega,rfl⟩,⟨0,by omega,rfl⟩⟩⟩
   obtain rfl:i=0:=by omega
   exact⟨Int.le_refl _,Int.le_refl _⟩
  ·simp only [if_neg h0]at hE
   obtain⟨⟨a,ha,ea⟩,⟨b,hb,eb⟩⟩:=h2 (by omega)
   rw [hE]
   refine⟨fun i hi=>?_,fun _=>⟨?_,?_⟩⟩
   ·rcases Nat.lt_or_ge i k with c|c
    ·have:=h1 i c
     constructor <;> dsimp only <;> split <;> omega
    ·obtain rfl:i=k:=by omega
     constructor <;> dsimp only <;> split <;> omega
   ·dsimp only
    split
    ·exact⟨k,by omega,rfl⟩
    ·exact⟨a,by omega,ea⟩
   ·dsimp only
    split
    ·exact⟨k,by omega,rfl⟩
    ·exact⟨b,by omega,eb⟩
def mnL (l:List Int):Int:=(stE l l.length).1
def mxL (l:List Int):Int:=(stE l l.length).2
theorem bd_of {l:List Int}(h:U64 l):0≤mnL l∧mnL l≤mxL l∧mxL l<18446744073709551616∧∀ x∈l,mnL l≤x∧x≤mxL l:=by
 rcases Nat.eq_zero_or_pos l.length with h0|h0
 ·have:l=[]:=List.eq_nil_of_length_eq_zero h0
  subst this
  exact⟨by decide,by decide,by decide,fun x hx=>by cases hx⟩
 ·obtain⟨h1,h2⟩:=stE_facts l l.length (Nat.le_refl _)
  obtain⟨⟨a,ha,ea⟩,⟨b,hb,eb⟩⟩:=h2 h0
  have ma:=h _ (aZz l (a:Int) (by omega) (by omega))
  have mb:=h _ (aZz l (b:Int) (by omega) (by omega))
  have:=h1 a ha
  refine⟨by rw [mnL,ea];exact ma.1,Int.le_trans this.1 this.2,by rw [mxL,eb];exact mb.2,fun x hx=>?_⟩
  obtain⟨i,hi,rfl⟩:=List.mem_iff_getElem.1 hx
  have:=h1 i hi
  rw [show rd l (i:Int)=l[i]by simp [rd,List.getD_eq_getElem?_getD,hi]]at this
  exact this
def wL (l:List Int):Nat:=Lib.bitLen (mxL l-mnL l).toNat
theorem wL_le {l:List Int}(h:U64 l):wL l≤64:=by
 have:=bd_of h
 exact bl_64 (by omega) (by omega)
def bmk (m:Int)(w:Nat)(l:List Int):List Int:=l.flatMap fun v=>bitsOf w (v-m)
theorem flatB_append (m:Int)(w:Nat)(a b:List Int):bmk m w (a++b)=bmk m w a++bmk m w b:=by simp [bmk]
theorem b1k (m:Int)(w:Nat)(v:Int)(b:List Int):bmk m w (v :: b)=bitsOf w (v-m)++bmk m w b:=by simp [bmk]
theorem a0q (m:Int)(w:Nat):∀ l:List Int,(bmk m w l).length=l.length*w
 | []=>by simp [bmk]
 |v :: l=>by
  rw [b1k,List.length_append,auk,a0q m w l,List.length_cons,Nat.add_mul]
  omega
def bck (l:List Int):List Int:=vn (mnL l).toNat++(wL l:Int) :: pack (bmk (mnL l) (wL l) l)
def packF (l:List Int):List Int×Int:=if 65536<l.length then([],4)else(bck l,0)
theorem Width_f (v:Int)(h0:0≤v)(h1:v<18446744073709551616):bits_Width.f v=some (Lib.bitLen v.toNat:Int):=by
 unfold bits_Width.f bits_Len64.f
 rw [if_pos ⟨h0,by omega⟩,Option.bind_some]
theorem frame_f {l:List Int}(h:U64 l)(hl:l.length<140737488355328):forpack_frame.f l=some (mnL l,(wL l:Int)):=by
 have:=bd_of h
 unfold forpack_frame.f
 rw [if_pos hl,aMq,show((stE l l.length).2-(stE l l.length).1)%18446744073709551616=mxL l-mnL l by unfold mxL mnL at *;omega,Width_f _ (by omega) (by omega)]
 rfl
theorem mn_fits {l:List Int}(h:U64 l){v:Int}(hv:v∈l):0≤v-mnL l∧v-mnL l<18446744073709551616∧Lib.bitLen (v-mnL l).toNat≤wL l∧IntKind.u64.wrap (v-mnL l)=v-mnL l∧v-mnL l<2 ^ wL l:=by
 obtain⟨b1,b2,b3,b4⟩:=bd_of h
 have:=b4 v hv
 have hx:(mxL l-mnL l).toNat<2 ^ wL l:=bl_lt _ _ (by omega) (Nat.le_refl _)
 have hlt:(v-mnL l).toNat<2 ^ wL l:=by omega
 refine⟨by omega,by omega,bl_le (wL_le h) hlt,by rw [aMq];omega,?_⟩
 have h2:((v-mnL l).toNat:Int)<(2:Int) ^ wL l:=by exact_mod_cast hlt
 rw [Int.toNat_of_nonneg (by omega)]at h2
 exact h2
theorem Pack_loop {l:List Int}(h:U64 l)(hl:l.length≤65536)(t:List Int):∀ p:List Int,l=p++t→Evn (fun k=>forpack_Pack.l0 k (mnL l) (wL l:Int) l (l.length:Int) (p.length:Int) (bmk (mnL l) (wL l) p)) (bck l,0):=by
 have hw:=wL_le h
 have hb:=bd_of h
 induction t with
 |nil=>
  intro p e
  rw [List.append_nil]at e
  subst e
  refine Evn.round ?_
  simp only [forpack_Pack.l0]
  have hvl:=avk (mnL l).toNat (by omega)
  have hfl:=a0q (mnL l) (wL l) l
  have hm:l.length*wL l≤65536*64:=Nat.mul_le_mul hl hw
  refine Evn.neg (by omega) (Evn.bind (bfk [] _ (by simp) hb.1 (by omega)) (Evn.pos (by simp;omega) (Evn.bik rfl (Evn.bik (a:=(pack (bmk (mnL l) (wL l) l),bmk (mnL l) (wL l) l)) (by unfold bits_Writer_Bytes.f;rw [if_pos (by omega)]) (Evn.pos (by simp [aBk];omega) ?_)))))
  refine(Evn.pure _).eq ?_
  rw [bck,show((wL l:Int))%256=(wL l:Int)by omega]
  simp
 |cons v t ih=>
  intro p e
  refine Evn.round ?_
  simp only [forpack_Pack.l0]
  have hlen:l.length=p.length+t.length+1:=by rw [e];simp;omega
  have hv:rd l (p.length:Int)=v:=by rw [e];exact rd_mid p v t _ rfl
  have hmem:v∈l:=by rw [e];simp
  obtain⟨f1,f2,f3,f4,f5⟩:=mn_fits h hmem
  have hfl:=a0q (mnL l) (wL l) p
  have hm:p.length*wL l≤65536*64:=Nat.mul_le_mul (by omega) hw
  rw [hv,f4]
  refine Evn.pos (by omega) (Evn.pos (by omega) (Evn.pos (by omega) (Evn.bik (a:=(0,bmk (mnL l) (wL l) (p ++ [v]))) ?_ ?_)))
  ·unfold bits_Writer_Put.f
   rw [if_pos ⟨by omega,by omega,by omega⟩]
   unfold wPut
   rw [if_neg (by omega),Int.toNat_natCast,flatB_append,b1k]
   simp [bmk]
  ·have h2:=ih (p ++ [v]) (by rw [e];simp)
   rw [agq (by omega) (by omega)]
   simpa using h2
theorem Pack_ev {l:List Int}(h:U64 l)(hl:l.length<140737488355328):Evn (fun k=>forpack_Pack.f k l) (packF l):=by
 unfold forpack_Pack.f packF
 by_cases c:65536<l.length
 ·rw [if_pos c]
  exact Evn.pos (by omega) (Evn.pure _)
 ·rw [if_neg c]
  exact Evn.neg (by omega) (Evn.bik (frame_f h (by omega)) (Pack_loop h (by omega) l [] rfl))
theorem packB_len {l:List Int}(h:U64 l):(bck l).length≤l.length*8+12:=by
 have hw:=wL_le h
 have hb:=bd_of h
 have hvl:=avk (mnL l).toNat (by omega)
 have hm:l.length*wL l≤l.length*64:=Nat.mul_le_mul_left _ hw
 rw [bck,List.length_append,List.length_cons,aBk,a0q]
 omega
theorem packF_len {l:List Int}(h:U64 l):(packF l).1.length≤600000:=by
 unfold packF
 split
 ·simp
 ·have:=packB_len h
  show(bck l).length≤_
  omega
end Go.Proofs.YthggdomocichdaaGreatDoor.ForP
namespace Go.Proofs.YthggdomocichdaaGreatDoor.P
open Go.RowKit Go.Proofs.YthggdomocichdaaGreatDoor.Kit Go.Proofs.YthggdomocichdaaGreatDoor.Var Go.Proofs.YthggdomocichdaaGreatDoorW.PrintWords Go.Proofs.YthggdomocichdaaGreatDoorW.PrintLast Go.Proofs.YthggdomocichdaaGreatDoorW.PrintMore
theorem go_len : ∀ (d i:Nat) (last:Int) (x:List Int),(delta_Diff.go d i last x).length=x.length
 | 0,_,_,_=>rfl
 |d+1,i,last,x=>by rw [delta_Diff.go,go_len d,List.length_set]
theorem all_len : ∀ (d j:Nat) (x:List Int),(delta_Diff.all d j x).length=x.length
 | 0,_,_=>rfl
 |d+1,j,x=>by rw [delta_Diff.all,all_len d,go_len]
theorem diff_ex (l:List Int)(hl:l.length≤65536)(a:Int)(h0:0≤a)(h3:a≤3):∃ r,delta_Diff.f l a=some (r,0)∧r.length=l.length:=
 ⟨_,by rw [delta_Diff.f,if_neg (by omega),if_neg (by omega),if_pos (by omega)],all_len _ _ _⟩
theorem zig_ok (x:Int):∃ z,varint_Zig.f x=some z∧0≤z∧z<18446744073709551616:=by
 refine⟨_,rfl,?_⟩
 show 0≤IntKind.u64.wrap _∧IntKind.u64.wrap _<_
 rw [aMq]
 omega
theorem boq (i:Nat)(h:i<140737488355328):wrap64 ((i:Int)+1)=((i+1:Nat):Int):=by
 rw [agq (by omega) (by omega)]
 omega
theorem w0_ex (l:List Int)(hl:l.length≤65536)(d:Nat):∀ (i:Nat) (out:List Int),i+d=l.length→out.length=8*i→∃ r,Evn (fun k=>intcodec_Way.l0 k out l (l.length:Int) (i:Int)) (r,0)∧r.length=8*l.length:=by
 induction d with
 |zero=>
  intro i out hi ho
  refine⟨out,Evn.succ (Evn.pure _) fun k=>?_,by omega⟩
  rw [intcodec_Way.l0,if_neg (by omega)]
 |succ d ih=>
  intro i out hi ho
  obtain⟨r,hr,hrl⟩:=ih (i+1) (out++fixB 8 (IntKind.u64.wrap (rd l (i:Int)))) (by omega) (by rw [List.length_append,ank];omega)
  refine⟨r,Evn.round ?_,hrl⟩
  simp only [intcodec_Way.l0]
  refine Evn.pos (by omega) (Evn.pos (by omega) (Evn.pos (by omega) (Evn.bind (bSk _ 8 (by decide)) (Evn.pos (by rw [ank];omega) ?_))))
  rw [boq i (by omega)]
  exact hr
def U6 (l:List Int):Prop := ∀ x∈l,0≤x∧x<18446744073709551616
theorem U6.rd {l:List Int}(h:U6 l)(i:Int)(h0:0≤i)(h1:i<(l.length:Int)):0≤rd l i∧rd l i<18446744073709551616:=h _ (aZz l i h0 h1)
theorem U6.set {l:List Int}(h:U6 l)(i:Nat){v:Int}(hv:0≤v∧v<18446744073709551616):U6 (l.set i v):=fun x hx=>by
 rcases List.mem_or_eq_of_mem_set hx with h1|rfl
 ·exact h x h1
 ·exact hv
theorem U6.drop {l:List Int}(h:U6 l)(n:Nat):U6 (l.drop n):=fun x hx=>h x (List.mem_of_mem_drop hx)
theorem sEncN_len : ∀ (d:Nat) (l:List Int),(bIk d l).length≤8*d
 | 0,_=>by simp [bIk]
 |d+1,l=>by
  rw [bIk]
  split
  ·simp
  ·have:=sEncN_len d (l.drop (nn (a3z 15 0 l)))
   rw [List.length_append,ank]
   omega
theorem tl_ex (l:List Int)(hl:l.length≤65536)(hu:U6 l)(d:Nat):∀ (i:Nat) (out:List Int),i+d=l.length→out.length≤10*i→∃ r,Evn (fun k=>intcodec_tail.l0 k out l (l.length:Int) (i:Int)) (r,0)∧r.length≤10*l.length:=by
 induction d with
 |zero=>
  intro i out hi ho
  refine⟨out,Evn.succ (Evn.pure _) fun k=>?_,by omega⟩
  rw [intcodec_tail.l0,if_neg (by omega)]
 |succ d ih=>
  intro i out hi ho
  have hr:=hu.rd (i:Int) (by omega) (by omega)
  have hv:=avk (rd l (i:Int)).toNat (by omega)
  obtain⟨r,hr',hrl⟩:=ih (i+1) (out++vn (rd l (i:Int)).toNat) (by omega) (by rw [List.length_append];omega)
  refine⟨r,Evn.round ?_,hrl⟩
  simp only [intcodec_tail.l0]
  have ha:=bfk [] (rd l (i:Int)) (by simp) hr.1 hr.2
  rw [List.nil_append]at ha
  refine Evn.pos (by omega) (Evn.pos (by omega) (Evn.pos (by omega) (Evn.bind ha (Evn.pos (by omega) ?_))))
  rw [boq i (by omega)]
  exact hr'
theorem tail_ex (l:List Int)(hl:l.length≤65536)(hu:U6 l)(tag:Int):∃ r e,Evn (fun k=>intcodec_tail.f k l tag) (r,e)∧r.length≤3000000:=by
 by_cases h2:tag=2
 ·have h:=ForP.Pack_ev hu (show l.length<140737488355328 by omega)
  refine⟨_,_,Evn.pos h2 (Evn.bind h (Evn.pure _)),Nat.le_trans (ForP.packF_len hu) (by omega)⟩
 ·by_cases h3:tag=3
  ·have h:simple_Encode.f l=some (sEnc l):=by
    rw [simple_Encode.f,if_pos ⟨fun x hx=>by have:=hu x hx;omega,by omega⟩]
   refine⟨_,_,Evn.neg h2 (Evn.pos h3 (Evn.bik h (Evn.pure _))),?_⟩
   unfold sEnc
   split
   ·simp
   ·split
    ·have:=sEncN_len l.length l
     dsimp only
     omega
    ·simp
  ·by_cases h4:tag=4
   ·have h:=Runs.Enc_ev l hu hl
    have:=Runs.b2q l 0 hu (by omega)
    refine⟨_,_,Evn.neg h2 (Evn.neg h3 (Evn.pos h4 (Evn.bind h (Evn.pure _)))),by dsimp only;omega⟩
   ·obtain⟨r,hr,hrl⟩:=tl_ex l hl hu l.length 0 [] (by omega) (by simp)
    exact⟨r,0,Evn.neg h2 (Evn.neg h3 (Evn.neg h4 hr)),by omega⟩
theorem w1_ex (l:List Int)(hl:l.length≤65536)(h0:0<l.length)(tag:Int)(d:Nat):∀ (i:Nat) (z:List Int),i+d=l.length→z.length=l.length→U6 z→∃ r e,Evn (fun k=>intcodec_Way.l1 k tag z l (l.length:Int) (i:Int)) (r,e):=by
 induction d with
 |zero=>
  intro i z hi hz hu
  have hr:=hu.rd 0 (by omega) (by omega)
  have ha:=bfk [] (rd z 0) (by simp) hr.1 hr.2
  rw [List.nil_append]at ha
  have hv:=avk (rd z 0).toNat (by omega)
  obtain⟨r,e,ht,htl⟩:=tail_ex (z.drop 1) (by rw [List.length_drop];omega) (hu.drop 1) tag
  by_cases he:e=0
  ·refine⟨vn (rd z 0).toNat++r,0,Evn.round ?_⟩
   simp only [intcodec_Way.l1]
   exact Evn.neg (by omega) (Evn.pos (by omega) (Evn.bind ha (Evn.pos (by omega) (Evn.bind ht (Evn.pos he (Evn.pos (by dsimp only;omega) (Evn.pure _)))))))
  ·refine⟨[],e,Evn.round ?_⟩
   simp only [intcodec_Way.l1]
   exact Evn.neg (by omega) (Evn.pos (by omega) (Evn.bind ha (Evn.pos (by omega) (Evn.bind ht (Evn.neg he (Evn.pure _))))))
 |succ d ih=>
  intro i z hi hz hu
  obtain⟨t,ht,ht2⟩:=zig_ok (rd l (i:Int))
  obtain⟨r,e,hr⟩:=ih (i+1) (z.set i t) (by omega) (by rw [List.length_set,hz]) (hu.set i ht2)
  refine⟨r,e,Evn.round ?_⟩
  simp only [intcodec_Way.l1]
  refine Evn.pos (by omega) (Evn.pos (by omega) (Evn.pos (by omega) (Evn.bik ht (Evn.pos (by omega) ?_))))
  rw [boq i (by omega),Int.toNat_natCast]
  exact hr
theorem often_ex (tag:Int):∃ a,intcodec_often.f tag=some a∧0≤a∧a≤3:=by
 unfold intcodec_often.f
 split
 ·exact⟨_,rfl,by omega,by omega⟩
 ·split
  ·exact⟨_,rfl,by omega,by omega⟩
  ·split <;> exact⟨_,rfl,by omega,by omega⟩
theorem Way_ex (l:List Int)(hl:l.length≤65536)(tag:Int)(h0:0≤tag)(h5:tag<5):∃ r e,Evn (fun k=>intcodec_Way.f k l tag) (r,e)∧(tag=0→e=0∧r.length=8*l.length):=by
 have hd:decide (tag≥5)=false:=decide_eq_false (by omega)
 have key:∀ r e,Evn (fun k=>intcodec_Way.j0 k l tag false) (r,e)→Evn (fun k=>intcodec_Way.f k l tag) (r,e):=fun r e h=>by
  simp only [intcodec_Way.f,hd]
  exact Evn.neg (by omega) h
 rcases Nat.eq_zero_or_pos l.length with hz|hz
 ·refine⟨[],0,key _ _ (Evn.round ?_),fun _=>⟨rfl,by rw [hz];rfl⟩⟩
  simp only [intcodec_Way.j0]
  exact Evn.neg (by simp) (Evn.neg (by omega) (Evn.pos (by omega) (Evn.pure _)))
 ·obtain⟨a,ha,ha0,ha3⟩:=often_ex tag
  obtain⟨dl,hdl,hdn⟩:=diff_ex l hl a ha0 ha3
  by_cases ht:tag=0
  ·obtain⟨r,hr,hrl⟩:=w0_ex dl (by omega) dl.length 0 [] (by omega) (by simp)
   refine⟨r,0,key _ _ (Evn.round ?_),fun _=>⟨rfl,by rw [hrl,hdn]⟩⟩
   simp only [intcodec_Way.j0]
   exact Evn.neg (by simp) (Evn.neg (by omega) (Evn.neg (by omega) (Evn.bik ha (Evn.bik hdl (Evn.pos ht hr)))))
  ·obtain⟨r,e,hr⟩:=w1_ex dl (by omega) (by omega) tag dl.length 0 (List.replicate dl.length 0) (by omega) (by simp) (fun x hx=>by rw [List.eq_of_mem_replicate hx];omega)
   refine⟨r,e,key _ _ (Evn.round ?_),fun h=>absurd h ht⟩
   simp only [intcodec_Way.j0]
   refine Evn.neg (by simp) (Evn.neg (by omega) (Evn.neg (by omega) (Evn.bik ha (Evn.bik hdl (Evn.neg ht (Evn.pos (by dsimp only;omega) (Evn.pos (by dsimp only;omega) ?_)))))))
   dsimp only
   rw [Int.toNat_natCast]
   exact hr
theorem enc_step (l:List Int)(hl:l.length≤65536)(d:Nat):∀ (i:Nat) (out:List Int) (best:Int),i+d=5→out.length≤8*l.length→∃ r,Evn (fun k=>intcodec_Encode.l0 k l out best (i:Int)) (r,0)∧r.length≤8*l.length+1:=by
 induction d with
 |zero=>
  intro i out best hi ho
  refine⟨[best%256]++out,Evn.round ?_,by simp;omega⟩
  simp only [intcodec_Encode.l0]
  exact Evn.neg (by omega) (Evn.bik rfl (Evn.pos (by simp;omega) (Evn.pure _)))
 |succ d ih=>
  intro i out best hi ho
  obtain⟨b,e,hb,_⟩:=Way_ex l hl (i:Int) (by omega) (by omega)
  by_cases h:e=0∧(b.length:Int)<(out.length:Int)
  ·obtain⟨r,hr,hrl⟩:=ih (i+1) b (i:Int) (by omega) (by omega)
   refine⟨r,Evn.round ?_,hrl⟩
   simp only [intcodec_Encode.l0]
   rw [boq i (by omega)]
   exact Evn.pos (by omega) (Evn.bind hb (Evn.pos h.1 (Evn.pos h.2 hr)))
  ·obtain⟨r,hr,hrl⟩:=ih (i+1) out best (by omega) ho
   refine⟨r,Evn.round ?_,hrl⟩
   simp only [intcodec_Encode.l0]
   rw [boq i (by omega)]
   refine Evn.pos (by omega) (Evn.bind hb ?_)
   by_cases he:e=0
   ·exact Evn.pos he (Evn.neg (fun hh=>h ⟨he,hh⟩) hr)
   ·exact Evn.neg he hr
theorem ints_ex (l:List Int)(hl:l.length≤65536):∃ r,Evn (fun k=>intcodec_Encode.f k l) (r,0)∧r.length≤8*l.length+1:=by
 obtain⟨b,e,hb,h0⟩:=Way_ex l hl 0 (by omega) (by omega)
 obtain⟨rfl,hbl⟩:=h0 rfl
 obtain⟨r,hr,hrl⟩:=enc_step l hl 5 0 b 0 rfl (by omega)
 refine⟨r,?_,hrl⟩
 simp only [intcodec_Encode.f]
 exact Evn.neg (by omega) (Evn.bind hb hr)
theorem pl_ex (l:List Int)(hl:l.length≤65536)(d:Nat):∀ (i:Nat) (out:List Int),i+d=l.length→out.length=8*i→∃ r,Evn (fun k=>valcodec_plain.l0 k out l (l.length:Int) (i:Int)) r∧r.length=8*l.length:=by
 induction d with
 |zero=>
  intro i out hi ho
  refine⟨out,Evn.succ (Evn.pure _) fun k=>?_,by omega⟩
  rw [valcodec_plain.l0,if_neg (by omega)]
 |succ d ih=>
  intro i out hi ho
  obtain⟨r,hr,hrl⟩:=ih (i+1) (out++fixB 8 (rd l (i:Int))) (by omega) (by rw [List.length_append,ank];omega)
  refine⟨r,Evn.round ?_,hrl⟩
  simp only [valcodec_plain.l0]
  refine Evn.pos (by omega) (Evn.pos (by omega) (Evn.pos (by omega) (Evn.bind (bSk _ 8 (by decide)) (Evn.pos (by rw [ank];omega) ?_))))
  rw [boq i (by omega)]
  exact hr
theorem plain_ex (l:List Int)(hl:l.length≤65536):∃ r,Evn (fun k=>valcodec_plain.f k l) r∧r.length=8*l.length:=pl_ex l hl l.length 0 [] (by omega) (by simp)
theorem vc_ex (l:List Int)(hl:l.length≤65536)(h0:0<l.length)(d:Nat):∀ (i:Nat),i+d=l.length→∃ r e,Evn (fun k=>valcodec_Way.l0 k l l (l.length:Int) (i:Int)) (r,e):=by
 induction d with
 |zero=>
  intro i hi
  obtain⟨r,hr,_⟩:=plain_ex (l.take 1) (by rw [List.length_take];omega)
  refine⟨r,0,Evn.round ?_⟩
  simp only [valcodec_Way.l0]
  exact Evn.neg (by omega) (Evn.neg (by omega) (Evn.pos (by omega) (Evn.bind hr (Evn.pure _))))
 |succ d ih=>
  intro i hi
  by_cases h:rd l (i:Int)=rd l 0
  ·obtain⟨r,e,hr⟩:=ih (i+1) (by omega)
   refine⟨r,e,Evn.round ?_⟩
   simp only [valcodec_Way.l0]
   refine Evn.pos (by omega) (Evn.pos (by omega) (Evn.pos (by omega) (Evn.pos (by omega) (Evn.pos h ?_))))
   rw [boq i (by omega)]
   exact hr
  ·refine⟨[],1,Evn.round ?_⟩
   simp only [valcodec_Way.l0]
   exact Evn.pos (by omega) (Evn.pos (by omega) (Evn.pos (by omega) (Evn.pos (by omega) (Evn.neg h (Evn.pure _)))))
theorem vway_ex (l:List Int)(hl:l.length≤65536)(hu:U6 l)(tag:Int)(h0:0≤tag)(h4:tag<4):∃ r e,Evn (fun k=>valcodec_Way.f k l tag) (r,e)∧(tag=0→e=0∧r.length=8*l.length):=by
 have hd:decide (tag≥4)=false:=decide_eq_false (by omega)
 have key:∀ r e,Evn (fun k=>valcodec_Way.j0 k l tag false) (r,e)→Evn (fun k=>valcodec_Way.f k l tag) (r,e):=fun r e h=>by
  simp only [valcodec_Way.f,hd]
  exact Evn.neg (by omega) h
 by_cases h2:tag=2
 ·have h:dict_Encode.f l=some (dEnc l):=by rw [dict_Encode.f,if_pos ⟨fun x hx=>by have:=hu x hx;omega,by omega⟩]
  refine⟨(dEnc l).1,(dEnc l).2,key _ _ (Evn.round ?_),fun h=>by omega⟩
  simp only [valcodec_Way.j0]
  exact Evn.neg (by simp) (Evn.neg (by omega) (Evn.pos h2 (Evn.bik h (Evn.pure _))))
 ·by_cases h3:tag=3
  ·have h:gorilla_Encode.f l=some (gEnc l):=by rw [gorilla_Encode.f,if_pos ⟨fun x hx=>by have:=hu x hx;omega,by omega⟩]
   refine⟨(gEnc l).1,(gEnc l).2,key _ _ (Evn.round ?_),fun h=>by omega⟩
   simp only [valcodec_Way.j0]
   exact Evn.neg (by simp) (Evn.neg (by omega) (Evn.neg h2 (Evn.pos h3 (Evn.bik h (Evn.pure _)))))
  ·by_cases h1:tag=0
   ·obtain⟨r,hr,hrl⟩:=plain_ex l hl
    refine⟨r,0,key _ _ (Evn.round ?_),fun _=>⟨rfl,hrl⟩⟩
    simp only [valcodec_Way.j0]
    exact Evn.neg (by simp) (Evn.neg (by omega) (Evn.neg h2 (Evn.neg h3 (Evn.pos h1 (Evn.bind hr (Evn.pure _))))))
   ·rcases Nat.eq_zero_or_pos l.length with hz|hz
    ·refine⟨[],1,key _ _ (Evn.round (Evn.round ?_)),fun h=>absurd h h1⟩
     simp only [valcodec_Way.j0,valcodec_Way.l0]
     exact Evn.neg (by simp) (Evn.neg (by omega) (Evn.neg h2 (Evn.neg h3 (Evn.neg h1 (Evn.neg (by omega) (Evn.pos (by omega) (Evn.pure _)))))))
    ·obtain⟨r,e,hr⟩:=vc_ex l hl hz l.length 0 (by omega)
     refine⟨r,e,key _ _ (Evn.round ?_),fun h=>absurd h h1⟩
     simp only [valcodec_Way.j0]
     exact Evn.neg (by simp) (Evn.neg (by omega) (Evn.neg h2 (Evn.neg h3 (Evn.neg h1 hr))))
theorem key_loop (a:Int)(d:Nat):∀ (i:Nat) (l:List Int),i+d=8→l.length=32→∃ r,Evn (fun k=>caskettop_key.l0 k a l (i:Int)) r∧r.length=32:=by
 induction d with
 |zero=>
  intro i l hi hl
  refine⟨l,Evn.succ (Evn.pure _) fun k=>?_,hl⟩
  rw [caskettop_key.l0,if_neg (by omega)]
 |succ d ih=>
  intro i l hi hl
  obtain⟨r,hr,hrl⟩:=ih (i+1) (l.set i ((shr .u64 (IntKind.u64.wrap a) (IntKind.u64.wrap (wrap64 (8*(i:Int)))))%256)) (by omega) (by rw [List.length_set,hl])
  refine⟨r,Evn.round ?_,hrl⟩
  simp only [caskettop_key.l0]
  have h8:0≤IntKind.u64.wrap (wrap64 (8*(i:Int))):=by rw [aMq];omega
  rw [boq i (by omega),Int.toNat_natCast]
  exact Evn.pos (by omega) (Evn.pos h8 (Evn.pos (by omega) (Evn.pos (by omega) hr)))
theorem key_ex (a:Int):∃ r:List Int,r.length=32∧∀ w:World,Calls Tryz.prog 9 #[.int .i64 a] w fun e w'=>∃ v0_:Value,e=.returned v0_∧Kd.R (Kd.int .u8) 5 w' w.heap.size (fun _=>True) v0_ r∧Below w.heap.size w w':=by
 obtain⟨r,hr,hl⟩:=key_loop a 8 0 (List.replicate 32 0) rfl (by simp)
 have h:Evn (fun k=>caskettop_key.f k a) r:=by
  simp only [caskettop_key.f]
  exact Evn.pos (by decide) hr
 obtain⟨k,hk⟩:=h.get
 exact⟨r,hl,fun w=>caskettop_key.calls k a r w hk⟩
def sAnt : ByteArray:=⟨#[97,110,116]⟩
def sBee : ByteArray:=⟨#[98,101,101]⟩
def sCat : ByteArray:=⟨#[99,97,116]⟩
def OkC (m:Nat)(s:ByteArray)(x:S43):Prop:=x.f0=s∧x.f1.length=m∧U6 (x.f1.map S56.f1)
theorem b3k (m:Nat)(hm:m<64)(s:Int)(nm:List ByteArray)(out:List S43)(i:Int)(name:ByteArray)(d:Nat):∀ (j:Nat) (xs:List S56) (x:Int),j+d=m→xs.length=j→U6 (xs.map S56.f1) →
  ∃ (c:S43) (x':Int),OkC m name c∧∀ r,out.length<1024→Evn (fun k=>caskettop_chunks.l0 k 2 (m:Int) s nm (out ++ [c]) x' (wrap64 (i+1))) r→Evn (fun k=>caskettop_chunks.l1 k 2 (m:Int) s nm out x i (j:Int) name xs) r:=by
 induction d with
 |zero=>
  intro j xs x hj hl hu
  refine⟨⟨name,xs⟩,x,⟨rfl,by simpa using(by omega:xs.length=m),hu⟩,fun r ho h=>Evn.round ?_⟩
  simp only [caskettop_chunks.l1]
  exact Evn.neg (by omega) (Evn.pos (by omega) h)
 |succ d ih=>
  intro j xs x hj hl hu
  obtain⟨c,x',hc,hr⟩:=ih (j+1) (xs ++ [(⟨wrap64 ((wrap64 (1000*i))+(wrap64 (10*(j:Int)))),(IntKind.u64.wrap ((IntKind.u64.wrap (x*6364136223846793005))+1442695040888963407))/1152921504606846976⟩:S56)]) (IntKind.u64.wrap ((IntKind.u64.wrap (x*6364136223846793005))+1442695040888963407)) (by omega) (by simp [hl]) (by
   intro y hy
   simp only [List.map_append,List.map_cons,List.map_nil,List.mem_append,List.mem_singleton]at hy
   rcases hy with h|rfl
   ·exact hu y h
   ·rw [aMq];omega)
  refine⟨c,x',hc,fun r ho h=>Evn.round ?_⟩
  simp only [caskettop_chunks.l1]
  refine Evn.pos (by omega) (Evn.pos (by omega) ?_)
  rw [boq j (by omega)]
  exact hr r ho h
theorem and_one (s:Int):Go.bits .and .i64 s 1=s%2:=by
 have:=and_mask s 1 (by decide)
 simpa using this
theorem and_63 (s:Int):Go.bits .and .i64 s 63=s%64:=by
 have:=and_mask s 6 (by decide)
 simpa using this
def Duo (m:Nat)(x y:S43):Prop:=OkC m sAnt x∧OkC m sBee y∨OkC m sBee x∧OkC m sCat y
theorem chunks_ex (m : Nat) (hm : m < 64) (s : Int) : ∃ x y : S43, Duo m x y ∧ ∀ w : World, Calls Tryz.prog 7 #[.int .i64 2, .int .i64 (m : Int), .int .i64 s] w fun e w' => ∃ (A : Option Addr) (c : Nat), e = .returned (.slice A 2 c) ∧ Kd.C k43 w' A 2 [x, y] ∧ Below w.heap.size w w' := by
  have hp : s % 2 = 0 ∨ s % 2 = 1 := by omega
  obtain ⟨p, hpe, hp2⟩ : ∃ p : Nat, Go.bits .and .i64 s 1 = (p : Int) ∧ p < 2 := ⟨(s % 2).toNat, by rw [and_one]; omega, by omega⟩
  have w0 : wrap64 ((0 : Int) + (p : Int)) = (p : Int) := by rw [agq (by omega) (by omega)]; omega
  have w1 : wrap64 ((1 : Int) + (p : Int)) = ((p + 1 : Nat) : Int) := by rw [agq (by omega) (by omega)]; omega
  have t0 : Int.tmod (p : Int) 3 = (p : Int) := by obtain rfl | rfl : p = 0 ∨ p = 1 := by omega <;> decide
                                                   all_goals decide
  have t1 : Int.tmod ((p + 1 : Nat) : Int) 3 = ((p + 1 : Nat) : Int) := by obtain rfl | rfl : p = 0 ∨ p = 1 := by omega
                                                                           all_goals decide
  have e01 : wrap64 ((0 : Int) + 1) = 1 := by decide +kernel
  have e12 : wrap64 ((1 : Int) + 1) = 2 := by decide +kernel
  obtain ⟨x, x1, hx, fx⟩ := b3k m hm s [sAnt, sBee, sCat] [] 0 (rdOf ByteArray.empty [sAnt, sBee, sCat] (p : Int)) m 0 [] (IntKind.u64.wrap s) (by omega) rfl (fun y hy => by simp at hy)
  obtain ⟨y, y1, hy, fy⟩ := b3k m hm s [sAnt, sBee, sCat] [x] 1 (rdOf ByteArray.empty [sAnt, sBee, sCat] ((p + 1 : Nat) : Int)) m 0 [] x1 (by omega) rfl (fun y hy => by simp at hy)
  refine ⟨x, y, ?_, ?_⟩
  · obtain rfl | rfl : p = 0 ∨ p = 1 := by omega
    · exact .inl ⟨hx, hy⟩
    · exact .inr ⟨hx, hy⟩
  · have h3 : Evn (fun k => caskettop_chunks.l0 k 2 (m : Int) s [sAnt, sBee, sCat] [x, y] y1 2) [x, y] := by
      refine Evn.succ (Evn.pure _) fun k => ?_
      rw [caskettop_chunks.l0, if_neg (by decide)]
    have h2 : Evn (fun k => caskettop_chunks.l0 k 2 (m : Int) s [sAnt, sBee, sCat] [x] x1 1) [x, y] := by
      refine Evn.round ?_
      simp only [caskettop_chunks.l0, hpe, w1, t1]
      refine Evn.pos (by decide) (Evn.pos (by omega) (Evn.pos (by simp; omega) ?_))
      refine fy _ (by simp) ?_
      rw [e12]
      exact h3
    have h1 : Evn (fun k => caskettop_chunks.f k 2 (m : Int) s) [x, y] := by
      simp only [caskettop_chunks.f]
      refine Evn.round ?_
      simp only [caskettop_chunks.l0, hpe, w0, t0]
      refine Evn.pos (by decide) (Evn.pos (by omega) (Evn.pos (by simp; omega) ?_))
      refine fx _ (by simp) ?_
      rw [e01]
      exact h2
    obtain ⟨k, hk⟩ := h1.get
    refine fun w => (caskettop_chunks.calls k 2 (m : Int) s [x, y] w hk).mono ?_
    rintro e w' ⟨v, rfl, hs, hb⟩
    obtain ⟨A, c, rfl, _, hC⟩ := Kd.S_reads hs
    exact ⟨A, c, rfl, hC, hb⟩
end Go.Proofs.YthggdomocichdaaGreatDoor.P
