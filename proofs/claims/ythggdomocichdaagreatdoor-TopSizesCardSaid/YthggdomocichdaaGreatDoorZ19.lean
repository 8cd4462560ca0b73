/- Put together: Diff. -/
import Derived.Test.YthggdomocichdaaGreatDoorZ9
set_option maxRecDepth 100000
set_option linter.unusedVariables false
set_option linter.unusedSimpArgs false
namespace Go.Proofs.YthggdomocichdaaGreatDoor.P
open Go.RowKit Go.Proofs.YthggdomocichdaaGreatDoorW.PrintWords Go.Proofs.YthggdomocichdaaGreatDoorW.PrintLast Go.Proofs.YthggdomocichdaaGreatDoorW.PrintMore
attribute [local go_sem] awq awz aCq aCz azk azq aFz aEk
def delta_Diff.go : Nat→Nat→Int→List Int→List Int
 | 0,_,_,x=>x
 |d+1,i,last,x=>delta_Diff.go d (i+1) (rd x (i:Int)) (x.set i (wrap64 (rd x (i:Int)-last)))
def delta_Diff.all : Nat→Nat→List Int→List Int
 | 0,_,x=>x
 |d+1,j,x=>delta_Diff.all d (j+1) (delta_Diff.go (x.length-(j+1)) (j+1) (rd x (j:Int)) x)
def delta_Diff.f (l0:List Int)(a1:Int):Option (List Int×Int):=
 if a1<0 then some ([],1)else if 3<a1 then some ([],1)else if l0.length<17592186044416 then some (delta_Diff.all (min a1.toNat l0.length) 0 l0,0)else none
theorem clone_i (l:List Int)(h:l.length<17592186044416):slices_Clone_int_int.f l=some l:=by
 unfold slices_Clone_int_int.f
 simp [h]
set_option maxHeartbeats 8000000 in
theorem delta_between.calls (n:Int)(w:World):Calls Tryz.prog 191 #[.int .i64 n] w fun e w'=>e=.returned (.func (.func 234) #[] #[.pointer (some ⟨w.heap.size,0,none⟩)])∧w.alloc (.cells #[.int .i64 n] 3)=w':=by
 go_enter Tryz.func191,Tryz.ntmps191
 go_wp2
 go_ret
 exact⟨rfl,rfl⟩
set_option maxHeartbeats 8000000 in
theorem delta_between1.calls (n last:Int)(B:Nat)(w:World)(hb:w.heap[B]? = some (.cells #[.int .i64 last] 3 (0,0))):Calls Tryz.prog 234 #[.int .i64 n,.pointer (some ⟨B,0,none⟩)] w fun e w'=>e=.returned (.int .i64 (wrap64 (n-last)))∧w.setCell ⟨B,0,none⟩ (.int .i64 n)=w':=by
 have hc:=cell_of_one hb
 have hf:=free_of_one hb
 clear hb
 go_enter Tryz.func234,Tryz.ntmps234
 go_wp2
 go_ret
 exact⟨rfl,rfl⟩
set_option maxHeartbeats 8000000 in
theorem delta_Diff.calls (A0:Option Addr)(c0:Nat)(l0:List Int)(a1:Int)(r1:List Int)(r2:Int)(w:World)(hr0:Kd.C (Kd.int .i64) w A0 l0.length l0)(hc0:l0.length≤c0)(h:delta_Diff.f l0 a1=some (r1,r2)) :
  Calls Tryz.prog 146 #[.slice A0 l0.length c0,.int .i64 a1] w fun e w'=>∃ v0_:Value,e=.returned (.tuple #[v0_,.int .i64 r2])∧Kd.R (Kd.int .i64) 3 w' w.heap.size (fun _=>True) v0_ r1∧Below w.heap.size w w':=by
 unfold delta_Diff.f at h
 by_cases h1:a1<0
 ·rw [if_pos h1]at h
  simp only [Option.some.injEq,Prod.mk.injEq]at h
  obtain⟨rfl,rfl⟩:=h
  have c1:decide (a1<0)=true:=decide_eq_true h1
  clear hr0 hc0 h1
  go_enter Tryz.func146,Tryz.ntmps146
  go_wp2
  go_ret2
  exact⟨_,rfl,Kd.ayz _ _ _ _ _,Below.refl _ _⟩
 ·rw [if_neg h1]at h
  by_cases h2:3<a1
  ·rw [if_pos h2]at h
   simp only [Option.some.injEq,Prod.mk.injEq]at h
   obtain⟨rfl,rfl⟩:=h
   have c1:decide (a1<0)=false:=decide_eq_false h1
   have c2:decide (3<a1)=true:=decide_eq_true h2
   clear hr0 hc0 h1 h2
   go_enter Tryz.func146,Tryz.ntmps146
   go_wp2
   go_ret2
   exact⟨_,rfl,Kd.ayz _ _ _ _ _,Below.refl _ _⟩
  ·rw [if_neg h2]at h
   by_cases h3:l0.length<17592186044416
   ·rw [if_pos h3]at h
    simp only [Option.some.injEq,Prod.mk.injEq]at h
    obtain⟨hr1,rfl⟩:=h
    have c1:decide (a1<0)=false:=decide_eq_false h1
    have c2:decide (3<a1)=false:=decide_eq_false h2
    obtain⟨m,hm⟩:∃ m:Nat,m=min a1.toNat l0.length:=⟨_,rfl⟩
    have hmn:(if(l0.length:Int)<a1 then(l0.length:Int)else a1)=(m:Int):=by rw [hm];split <;> omega
    rw [←hm]at hr1
    have A6:=Qz.k (clone_i l0 h3)
    have HR1:=Qz.k hr1
    have HR0:=Qz.k hr0
    have HC0:=Qz.k hc0
    have HM:=Qz.k hm
    have hbig:(l0.length:Int)<17592186044416:=by omega
    clear hr1 hr0 hc0 hm h1 h2 h3
    have HB:=Qz.k (Below.refl w.heap.size w)
    go_enter Tryz.func146,Tryz.ntmps146
    go_wp2_with (first|((with_reducible refine aiz (f:=190) rfl ?_);refine asq (some 17) rfl rfl Tryz.func190 (by kernel_rfl) rfl #[.slice A0 l0.length c0] rfl (by(try simp only [List.map_toArray,List.map_cons,List.map_nil]);first|done|rfl) ?_;(with_reducible refine(slices_Clone_int_int.calls _ _ l0 l0 _ HR0.out HC0.out A6.out).mono ?_);rintro e w8 ⟨v112,rfl,ho0,hb⟩;refine⟨_,rfl,?_⟩;have HO:=Qz.k ho0;have HB1:=Qz.k hb;clear HB ho0 hb;obtain⟨Ao9,co9,eo9⟩:=Kd.afz HO.out;subst eo9))
    go_loopg [22] (m-0) (fun kq v22 w'=>∃ (j:Nat) (x:List Int),v22=.int .i64 (j:Int)∧kq=m-j∧j≤m∧Qz (x.length=l0.length)∧Qz (delta_Diff.all (m-j) j x=r1)∧Qz (Kd.R (Kd.int .i64) 3 w' w.heap.size (fun _=>True) (.slice Ao9 l0.length co9) x)∧Qz (Below w.heap.size w w'))
    case atStart=>exact⟨0,l0,rfl,rfl,Nat.zero_le _,⟨rfl⟩,HR1,HO,HB1⟩
    case round=>
     clear HO HB1 HR1
     obtain⟨j,x,rfl,rfl,hjm,HX,HA,HO,HB⟩:=hrel
     obtain⟨wo,rfl⟩:∃ wo:World,wo=wr:=⟨_,rfl⟩
     by_cases hj:j<m
     ·have hd:decide ((j:Int)<(m:Int))=true:=decide_eq_true (by omega)
      have hd2:decide (j<m)=true:=decide_eq_true hj
      have hml:m≤l0.length:=by have:=HM.out;omega
      have hl0:(0:Int)≤(j:Int):=by omega
      have hl1:(j:Int)<(l0.length:Int):=by omega
      obtain⟨ad,e1,hx1⟩:=Kd.asz (Kd.ack HO.out).2.2 (j:Int) hl0 (by rw [HX.out];exact hl1)
      obtain⟨g,co,eo,gb,gl,cl,hg⟩:=Kd.bjz HO.out (by rw [HX.out];omega)
      injection eo with ea_ en_ ec_
      subst ea_ ec_
      clear en_
      injection e1 with e1
      subst e1
      simp only [add_plain,Int.toNat_natCast]at hx1
      have HX1:=Qz.k hx1
      have HG:=Qz.k hg
      go_wp2_with (go_at_call 191;refine(delta_between.calls _ _).mono ?_;rintro e w1 ⟨rfl,rfl⟩)
      have hsize:g<wo.heap.size:=gl
      go_loopg [9] (x.length-(j+1)) (fun kq v9 w'=>∃ (i:Nat) (last:Int) (y:List Int),v9=.int .i64 (i:Int)∧kq=x.length-i∧i≤x.length∧Qz (y.length=l0.length)∧Qz (delta_Diff.go (x.length-i) i last y=delta_Diff.go (x.length-(j+1)) (j+1) (rd x (j:Int)) x)∧Qz (Kd.R (Kd.int .i64) 3 w' w.heap.size (fun k=>k≠wo.heap.size) (.slice (some ⟨g,0,none⟩) l0.length co9) y)∧Qz (w'.heap[wo.heap.size]? = some (.cells #[.int .i64 last] 3 (0,0)))∧Qz (Below w.heap.size w w'))
      case atStart=>exact⟨j+1,rd x (j:Int),x,by go_num,rfl,by have:=HX.out;omega,HX,⟨rfl⟩,⟨Kd.akq (Kd.R_mono (Kd.axz HO.out) (fun k hk=>by have:=hk.2.2.1;omega)) _⟩,⟨heap_alloc_new wo _⟩,⟨aaq HB.out _⟩⟩
      case round=>
       obtain⟨i,last,y,rfl,rfl,hix,HY,HA1,HO1,HBX,HB1⟩:=hrel
       by_cases hi:i<x.length
       ·have hi2:i<l0.length:=by have:=HX.out;omega
        have hd3:decide ((i:Int)<(l0.length:Int))=true:=decide_eq_true (by omega)
        have hd4:decide (i<l0.length)=true:=decide_eq_true hi2
        obtain⟨hx2,hf2⟩:=Kd.aUq 0 HO1.out (i:Int) (by omega) (by omega)
        simp only [Int.toNat_natCast]at hx2 hf2
        have hne:g≠wo.heap.size:=by omega
        go_wp2_with (go_at_call 234;refine(delta_between1.calls _ _ _ _ HBX.out).mono ?_;rintro e w1 ⟨rfl,rfl⟩)
        go_roundg (x.length-(i+1))
        case measure=>omega
        case rel=>
         have hB2:=HB1.out
         refine⟨i+1,rd y (i:Int),y.set i (wrap64 (rd y (i:Int)-last)),by go_num,rfl,by omega,⟨by rw [List.length_set];exact HY.out⟩,⟨?_⟩,⟨?_⟩,⟨?_⟩,⟨?_⟩⟩
         ·rw [←HA1.out,show x.length-i=(x.length-(i+1))+1 by omega]
          rfl
         ·have h5:=Kd.bCq (Kd.aQq HO1.out (p:=⟨wo.heap.size,0,none⟩) (fun k hk=>hk) (Value.int .i64 (rd y (i:Int)))) (i:Int) (wrap64 (rd y (i:Int)-last))
          simp only [Int.toNat_natCast]at h5
          exact h5
         ·exact(Below.heap_setCell _ _ _ _ (by simpa using fun e=>hne e.symm)).trans (one_setCell HBX.out)
         ·exact adq (adq hB2 (afq HB.out)) gb
       ·have hi2:¬ i<l0.length:=by have:=HX.out;omega
        have hd3:decide ((i:Int)<(l0.length:Int))=false:=decide_eq_false (by omega)
        have hd4:decide (i<l0.length)=false:=decide_eq_false hi2
        go_wp2
        go_roundg (m-(j+1))
        case measure=>omega
        case rel=>
         have e:=HA1.out
         rw [show x.length-i=0 by omega]at e
         refine⟨j+1,y,by go_num,rfl,by omega,HY,⟨?_⟩,⟨Kd.R_mono HO1.out (fun _ _=>trivial)⟩,HB1⟩
         have e2:=HA.out
         rw [show m-j=(m-(j+1))+1 by omega]at e2
         simp only [delta_Diff.all]at e2
         rw [←e]at e2
         exact e2
     ·have hd:decide ((j:Int)<(m:Int))=false:=decide_eq_false (by omega)
      have hd2:decide (j<m)=false:=decide_eq_false hj
      go_wp2
      go_ret2
      have e:m-j=0:=by omega
      have e2:=HA.out
      rw [e]at e2
      simp only [delta_Diff.all]at e2
      subst e2
      exact⟨_,rfl,HO.out,HB.out⟩
   ·rw [if_neg h3]at h
    cases h
end Go.Proofs.YthggdomocichdaaGreatDoor.P
