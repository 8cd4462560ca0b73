/- Put together: Px4, Frame. -/
import Derived.Test.YthggdomocichdaaGreatDoorZ5
import Derived.RangeFuncNested
import Derived.RangeFuncBound
import Derived.RangeFuncCalls
import Derived.RangeFuncLeaves
import Derived.RangeFuncFrom
import Derived.Shelf.Abstract
import Derived.Sort.QuietTacIn
import Derived.Shelf.RegionOpen
import Derived.OwnWalkIn
import Derived.TacticsInMore
import Derived.LoopNIn
import Derived.LoopIn
set_option maxRecDepth 100000
set_option linter.unusedVariables false
set_option linter.unusedSimpArgs false
namespace Go.Proofs.YthggdomocichdaaGreatDoor.P
open Go.RowKit Go.Proofs.YthggdomocichdaaGreatDoorW.PrintWords Go.Proofs.YthggdomocichdaaGreatDoorW.PrintLast Go.Proofs.YthggdomocichdaaGreatDoorW.PrintMore
attribute [local go_sem] awq awz aCq aCz azk azq aFz aEk
def bits_Width.f (a0:Int):Option (Int):=(bits_Len64.f a0).bind fun t151=>(some t151)
set_option maxHeartbeats 8000000 in
theorem bits_Width.calls (a0:Int)(r:Int)(w:World)(h:bits_Width.f a0=some r) :
  Calls Tryz.prog 291 #[.int .u64 a0] w fun e w'=>e=.returned (.int .i64 r)∧Drawn0 w w':=by
 have H:((bits_Len64.f a0).bind fun t151=>(some t151))=some r:=h
 clear h
 replace H:=Option.bind_eq_some_iff.mp H
 obtain⟨t151,A20,H⟩:=H
 replace H:(some t151)=some r:=H
 have A2:=Qz.k A20
 clear A20
 obtain rfl:=Option.some.inj H
 go_enter Tryz.func291,Tryz.ntmps291
 go_wp2_with (first|((with_reducible refine aiz (f:=259) rfl ?_);refine asq (some 4) rfl rfl Tryz.func259 (by kernel_rfl) rfl #[.int .u64 a0] rfl (by(try simp only [List.map_toArray,List.map_cons,List.map_nil]);first|done|rfl|(simp only [List.length_drop,List.length_take];rfl)) ?_;(with_reducible refine(bits_Len64.calls a0 t151 _ A2.out).mono ?_);rintro e w' ⟨rfl,⟨nd,rfl⟩⟩;refine⟨_,rfl,?_⟩))
 go_ret
 exact⟨by first|rfl|(simp;done)|(simp [*];done),by repeat(first|exact Drawn0.refl _|apply Drawn0.step)⟩
end Go.Proofs.YthggdomocichdaaGreatDoor.P
namespace Go.Proofs.YthggdomocichdaaGreatDoor.P
open Go.RowKit Go.Shelf Go.Proofs.YthggdomocichdaaGreatDoor.Kit Go.Proofs.YthggdomocichdaaGreatDoorW.PrintWords Go.Proofs.YthggdomocichdaaGreatDoorW.PrintLast Go.Proofs.YthggdomocichdaaGreatDoorW.PrintMore
attribute [local go_sem] Oper.semAt_some awq awz aCq aCz
theorem aNz (w:World)(v:Value)(t:TypeId):(w.alloc (.cells #[v] t)).cell? ⟨w.heap.size,0,none⟩=some v∧(w.alloc (.cells #[v] t)).frozen? ⟨w.heap.size,0,none⟩=false:=by simp
theorem aIq {w:World}(o:Obj){p:Addr}{v:Value}(h:w.cell? p=some v):(w.alloc o).cell? p=some v:=abz (aaq (Below.refl _ _) o) h
theorem a1k {w:World}(o:Obj){p:Addr}{v:Value}(hc:w.cell? p=some v)(h:w.frozen? p=false):(w.alloc o).frozen? p=false:=(frozen_kept hc (World.grownBy_alloc w o none) (fun r e=>by cases e)).trans h
def b1z : Value→Int | .int _ q=>q | _=>0
def stE (zs:List Int):Nat→Int×Int
 | 0=>(0,0)
 |k+1=>let v:=rd zs (k:Int);let s:=if k=0 then(v,v)else stE zs k;(if v<s.1 then v else s.1,if s.2<v then v else s.2)
def eP (zs:List Int)(k:Nat):List (Int×Int):=(List.range k).map fun j=>stE zs (j+1)
theorem aXz (zs:List Int)(k:Nat):eP zs (k+1)=eP zs k ++ [stE zs (k+1)]:=by simp [eP,List.range_succ]
theorem eP_length (zs:List Int)(k:Nat):(eP zs k).length=k:=by simp [eP]
abbrev encU (p:Int×Int):Array Value:=#[.int .u64 p.1,.int .u64 p.2]
set_option maxHeartbeats 4000000 in
theorem ends1_in (F:Fence)(n:Nat)(h47:F.fn 317)(hro:F.round=none)(hn:1≤n)(l Bs:Nat)(w0:World)(A:Option Addr)(cap:Nat)(zs:List Int)(hz:zs.length<140737488355328)(hr:Kd.C (Kd.int .u64) w0 A zs.length zs)
  (J Jx:List (Int×Int)→World→Prop)
  (hY:∀ pre x W,J pre W→pre.length<zs.length→YieldAt F (n-1) Tryz.prog l (encU x) W fun e W'=>
   (e=.returned (.bool true)∧J (pre ++ [x]) W'∧Below w0.heap.size W W')∨(e=.returned (.bool false)∧Jx (pre ++ [x]) W'))
  (W:World) (hB:Below w0.heap.size w0 W) (hBs:W.cell? ⟨Bs,0,none⟩=some (.slice A zs.length cap)) (h0:J [] W) :
  CallsIn F n Tryz.prog 317 #[.func (.yield l) #[] #[],.pointer (some ⟨Bs,0,none⟩)] W fun e W'=>(∃ v,e=.returned v) ∧
   ((∃ ys,ys=eP zs zs.length∧J ys W')∨(∃ pre,(∃ k,k≤zs.length∧pre=eP zs k)∧Jx pre W')):=by
 refine callsIn_of_wp Tryz.func317 rfl h47 ?_ hro
 simp only [Tryz.ntmps317,List.size_toArray,List.length_cons,List.length_nil,Nat.reduceAdd,Nat.reduceSub,Array.replicate_succ,Array.replicate_zero,List.push_toArray,List.append_toArray,List.nil_append,List.cons_append]
 gi_wp2
 gi_loopw [3,4,9] (fun p q i wr=>∃ k:Nat,k≤zs.length∧p=.int .u64 (stE zs k).1∧q=.int .u64 (stE zs k).2∧i=.int .i64 (k:Int)∧J (eP zs k) wr∧Below w0.heap.size w0 wr)
  (fun p q i _=>zs.length-(b1z i).toNat)
 case atStart=>exact⟨0,Nat.zero_le _,rfl,rfl,rfl,h0,hB⟩
 case round=>
  obtain⟨k,hk,rfl,rfl,rfl,hJs,hnx⟩:=hrel
  by_cases hlt:k<zs.length
  ·have hY1:=hY _ (stE zs (k+1)) wr hJs (by rw [eP_length];exact hlt)
   obtain⟨ad,rfl,hcell⟩:=Kd.asz (Kd.acz hr hnx) (k:Int) (by omega) (by omega)
   rw [Int.toNat_natCast]at hcell
   have c1:decide ((k:Int)<(zs.length:Int))=true:=decide_eq_true (by omega)
   have c2:decide (k<zs.length)=true:=decide_eq_true hlt
   have hw:wrap64 ((k:Int)+1)=((k+1:Nat):Int):=by
    rw [agq (by omega) (by omega)]
    rfl
   have hE:stE zs (k+1)=(if rd zs (k:Int)<(if k=0 then(rd zs (k:Int),rd zs (k:Int))else stE zs k).1 then rd zs (k:Int)else(if k=0 then(rd zs (k:Int),rd zs (k:Int))else stE zs k).1,if(if k=0 then(rd zs (k:Int),rd zs (k:Int))else stE zs k).2<rd zs (k:Int)then rd zs (k:Int)else(if k=0 then(rd zs (k:Int),rd zs (k:Int))else stE zs k).2):=rfl
   generalize hv:rd zs (k:Int)=v at *
   obtain⟨s,hs⟩:∃ s,stE zs k=s:=⟨_,rfl⟩
   rw [hs]at hE ⊢
   by_cases hk0:k=0
   ·have c3:((k:Int) == 0)=true:=by rw [hk0];rfl
    have c4:decide ((k:Int)=0)=true:=decide_eq_true (by omega)
    have c5:decide (k=0)=true:=decide_eq_true hk0
    have c6:(k == 0)=true:=by rw [hk0];rfl
    have HP:stE zs (k+1)=(v,v):=by
     rw [hE]
     simp only [if_pos hk0,Int.lt_irrefl,if_false]
    rw [HP]at hY1
    obtain⟨fn,tmps,assign,body,hy,hR⟩:=hY1
    dsimp only [encU]at hy
    clear hE hk0
    gi_wp2
    refine hR.mono ?_
    rintro e W3 (⟨rfl,hJ3,hk3⟩|⟨rfl,hJx3⟩)
    ·gi_wp2
     go_roundw
     case rel=>exact⟨k+1,hlt,by rw [HP],by rw [HP],rfl,by rw [aXz,HP];exact hJ3,hnx.trans hk3⟩
     case measure=>exact(by clear hw;simp [b1z];omega)
    ·gi_wp2
     refine bodyPost_ret (results_none rfl _ _ _) rfl ?_
     exact⟨⟨_,rfl⟩,.inr ⟨_,⟨k+1,hlt,by rw [aXz,HP]⟩,hJx3⟩⟩
   ·have c3:((k:Int) == 0)=false:=by simpa using hk0
    have c4:decide ((k:Int)=0)=false:=decide_eq_false (by omega)
    have c5:decide (k=0)=false:=decide_eq_false hk0
    have c6:(k == 0)=false:=by simpa using hk0
    by_cases d1:v<s.1
    ·by_cases d2:s.2<v
     ·have HP:stE zs (k+1)=(v,v):=by
       rw [hE]
       simp only [if_neg hk0,if_pos d1,if_pos d2]
      rw [HP]at hY1
      obtain⟨fn,tmps,assign,body,hy,hR⟩:=hY1
      dsimp only [encU]at hy
      clear hE hk0
      gi_wp2
      refine hR.mono ?_
      rintro e W3 (⟨rfl,hJ3,hk3⟩|⟨rfl,hJx3⟩)
      ·gi_wp2
       go_roundw
       case rel=>exact⟨k+1,hlt,by rw [HP],by rw [HP],rfl,by rw [aXz,HP];exact hJ3,hnx.trans hk3⟩
       case measure=>exact(by clear hw;simp [b1z];omega)
      ·gi_wp2
       refine bodyPost_ret (results_none rfl _ _ _) rfl ?_
       exact⟨⟨_,rfl⟩,.inr ⟨_,⟨k+1,hlt,by rw [aXz,HP]⟩,hJx3⟩⟩
     ·have HP:stE zs (k+1)=(v,s.2):=by
       rw [hE]
       simp only [if_neg hk0,if_pos d1,if_neg d2]
      rw [HP]at hY1
      obtain⟨fn,tmps,assign,body,hy,hR⟩:=hY1
      dsimp only [encU]at hy
      clear hE hk0
      gi_wp2
      refine hR.mono ?_
      rintro e W3 (⟨rfl,hJ3,hk3⟩|⟨rfl,hJx3⟩)
      ·gi_wp2
       go_roundw
       case rel=>exact⟨k+1,hlt,by rw [HP],by rw [HP],rfl,by rw [aXz,HP];exact hJ3,hnx.trans hk3⟩
       case measure=>exact(by clear hw;simp [b1z];omega)
      ·gi_wp2
       refine bodyPost_ret (results_none rfl _ _ _) rfl ?_
       exact⟨⟨_,rfl⟩,.inr ⟨_,⟨k+1,hlt,by rw [aXz,HP]⟩,hJx3⟩⟩
    ·by_cases d2:s.2<v
     ·have HP:stE zs (k+1)=(s.1,v):=by
       rw [hE]
       simp only [if_neg hk0,if_neg d1,if_pos d2]
      rw [HP]at hY1
      obtain⟨fn,tmps,assign,body,hy,hR⟩:=hY1
      dsimp only [encU]at hy
      clear hE hk0
      gi_wp2
      refine hR.mono ?_
      rintro e W3 (⟨rfl,hJ3,hk3⟩|⟨rfl,hJx3⟩)
      ·gi_wp2
       go_roundw
       case rel=>exact⟨k+1,hlt,by rw [HP],by rw [HP],rfl,by rw [aXz,HP];exact hJ3,hnx.trans hk3⟩
       case measure=>exact(by clear hw;simp [b1z];omega)
      ·gi_wp2
       refine bodyPost_ret (results_none rfl _ _ _) rfl ?_
       exact⟨⟨_,rfl⟩,.inr ⟨_,⟨k+1,hlt,by rw [aXz,HP]⟩,hJx3⟩⟩
     ·have HP:stE zs (k+1)=(s.1,s.2):=by
       rw [hE]
       simp only [if_neg hk0,if_neg d1,if_neg d2]
      rw [HP]at hY1
      obtain⟨fn,tmps,assign,body,hy,hR⟩:=hY1
      dsimp only [encU]at hy
      clear hE hk0
      gi_wp2
      refine hR.mono ?_
      rintro e W3 (⟨rfl,hJ3,hk3⟩|⟨rfl,hJx3⟩)
      ·gi_wp2
       go_roundw
       case rel=>exact⟨k+1,hlt,by rw [HP],by rw [HP],rfl,by rw [aXz,HP];exact hJ3,hnx.trans hk3⟩
       case measure=>exact(by clear hw;simp [b1z];omega)
      ·gi_wp2
       refine bodyPost_ret (results_none rfl _ _ _) rfl ?_
       exact⟨⟨_,rfl⟩,.inr ⟨_,⟨k+1,hlt,by rw [aXz,HP]⟩,hJx3⟩⟩
  ·obtain rfl:k=zs.length:=by omega
   gi_wp2
   go_end0
   exact⟨⟨_,rfl⟩,.inl ⟨_,rfl,hJs⟩⟩
theorem ends_stops (F:Fence)(n:Nat)(h47:F.fn 317)(hro:F.round=none)(hn:1≤n)(Bs:Nat)(w0:World)(A:Option Addr)(cap:Nat)(zs:List Int)(hz:zs.length<140737488355328)(hr:Kd.C (Kd.int .u64) w0 A zs.length zs)
  (w:World) (hB:Below w0.heap.size w0 w) (hn0:w0.heap.size≤w.heap.size) (hBl:Bs<w.heap.size) (hBs:w.cell? ⟨Bs,0,none⟩=some (.slice A zs.length cap)) :
  SeqStopsK F n Tryz.prog 317 #[.pointer (some ⟨Bs,0,none⟩)] encU (Below w0.heap.size) (fun ys=>ys=eP zs zs.length) (fun pre=>∃ k,k≤zs.length∧pre=eP zs k) zs.length w:=fun l J Jx W hW _ _ hY h0=>
 ends1_in F n h47 hro hn l Bs w0 A cap zs hz hr J Jx hY W (hB.trans (hW.mono hn0)) ((hW.cell (p:=⟨Bs,0,none⟩) hBl).trans hBs) h0
theorem ends_call (F:Fence)(n:Nat)(h39:F.fn 290)(hro:F.round=none)(A:Option Addr)(len cap:Nat)(w:World):CallsIn F n Tryz.prog 290 #[.slice A len cap] w fun e w'=>e=.returned (.func (.func 317) #[] #[.pointer (some ⟨w.heap.size,0,none⟩)])∧w'=w.alloc (.cells #[.slice A len cap] 81):=by
 refine callsIn_of_wp Tryz.func290 rfl h39 ?_ hro
 simp only [Tryz.ntmps290,List.size_toArray,List.length_cons,List.length_nil,Nat.reduceAdd,Nat.reduceSub,Array.replicate_succ,Array.replicate_zero,List.push_toArray,List.append_toArray,List.nil_append,List.cons_append]
 gi_wp2
 go_ret
 exact⟨rfl,rfl⟩
def lastE (pre:List (Int×Int)):Int×Int:=pre.getLast?.getD (0,0)
theorem byq (pre:List (Int×Int))(x:Int×Int):lastE (pre ++ [x])=x:=by simp [lastE]
theorem lastE_eP (zs:List Int)(k:Nat):lastE (eP zs k)=stE zs k:=by
 cases k with
 |zero=>rfl
 |succ k=>rw [aXz,byq]
def forpack_frame.f (l:List Int):Option (Int×Int):=if l.length<140737488355328 then(bits_Width.f (IntKind.u64.wrap ((stE l l.length).2-(stE l l.length).1))).bind fun r=>some ((stE l l.length).1,r)else none
set_option maxHeartbeats 4000000 in
theorem frame_in (F:Fence)(n:Nat)(hfn:∀ k,F.fn k)(hro:F.round=none)(hn:3≤n)(A:Option Addr)(cap:Nat)(zs:List Int)(hz:zs.length<140737488355328)(w:World)(hr:Kd.C (Kd.int .u64) w A zs.length zs)(r:Int)
  (hW:∀ w,CallsIn F (n-1) Tryz.prog 291 #[.int .u64 (IntKind.u64.wrap ((stE zs zs.length).2-(stE zs zs.length).1))] w fun e w'=>e=.returned (.int .i64 r)∧Drawn0 w w') :
  CallsIn F n Tryz.prog 235 #[.slice A zs.length cap] w fun e W'=>e=.returned (.tuple #[.int .u64 (stE zs zs.length).1,.int .i64 r])∧Below w.heap.size w W':=by
 have h1:1≤n:=by omega
 refine callsIn_of_wp_marks Tryz.func235 rfl (hfn _) ?_ hro
 simp only [Tryz.ntmps235,List.size_toArray,List.length_cons,List.length_nil,Nat.reduceAdd,Nat.reduceSub,Array.replicate_succ,Array.replicate_zero,List.push_toArray,List.append_toArray,List.nil_append,List.cons_append]
 gi_wp2_with (gi_at_call 290;refine(ends_call F (n-1) (hfn _) hro _ _ _ _).mono ?_;rintro e w' ⟨rfl,rfl⟩)
 have c0:=aNz w (.int .u64 0) 22
 have c1:=aNz (w.alloc (.cells #[.int .u64 0] 22)) (.int .u64 0) 22
 have c2:=aNz ((w.alloc (.cells #[.int .u64 0] 22)).alloc (.cells #[.int .u64 0] 22)) (.slice A zs.length cap) 81
 simp only [World.size_alloc]at c1 c2
 have hB0:Below w.heap.size w (((w.alloc (.cells #[.int .u64 0] 22)).alloc (.cells #[.int .u64 0] 22)).alloc (.cells #[.slice A zs.length cap] 81)):=(((Below.refl _ w).alloc (Nat.le_refl _) _).alloc (by simp) _).alloc (by simp;omega) _
 refine wpIn_rangeFunc_ownF hro h1 (gf:=317) (lb:=#[.pointer (some ⟨w.heap.size+1+1,0,none⟩)]) rfl (hfn _) (enters_of Tryz.func317 (by kernel_rfl) rfl)
  (ends_stops F (n-1) (hfn _) hro (by omega) (w.heap.size+1+1) w A cap zs hz hr _ hB0 (by simp;omega) (by simp) c2.1) belowK_t (belowK_b (by simp;omega)) (Below.refl _ _) (fun _=>rfl)
  (fun pre W=>(W.cell? ⟨w.heap.size,0,none⟩=some (.int .u64 (lastE pre).1)∧W.frozen? ⟨w.heap.size,0,none⟩=false∧W.cell? ⟨w.heap.size+1,0,none⟩=some (.int .u64 (lastE pre).2)∧W.frozen? ⟨w.heap.size+1,0,none⟩=false)∧Below w.heap.size w W)
  (fun _ _ _=>False)
  (OwnFrom.and (Own.from (fun s A B row hs hg hr=>⟨cell_kept hs.1 hg hr,(frozen_kept hs.1 hg hr).trans hs.2.1,cell_kept hs.2.2.1 hg hr,(frozen_kept hs.2.2.1 hg hr).trans hs.2.2.2⟩) _) (ownFrom_below (Nat.le_refl _) (by simp;omega)))
  (fun _ _ _ _ _ hs _ _=>hs)
  ⟨⟨aIq _ (aIq _ c0.1),a1k _ (aIq _ c0.1) (a1k _ c0.1 c0.2),aIq _ c1.1,a1k _ c1.1 c1.2⟩,hB0⟩
  (fun x=>{ tmps:=#[.slice A zs.length cap,undef,.int .u64 0,.int .i64 0,.pointer (some ⟨w.heap.size,0,none⟩),.pointer (some ⟨w.heap.size+1,0,none⟩),.int .u64 x.1,.int .u64 x.2,.slice A zs.length cap,.func (.func 317) #[] #[.pointer (some ⟨w.heap.size+1+1,0,none⟩)],.int .u64 x.1,.int .u64 x.2,undef,undef,undef,undef,undef,undef,undef],defers:=[] }) ?assign ?body ?done ?stop
 case assign=>
  intro l x W K hK
  gi_wp2
  exact hK
 case body=>
  rintro l pre x W ⟨⟨hc0,hf0,hc1,hf1⟩,hB⟩ _
  gi_wp2
  have e1:=World.cell?_setCell_same' W ⟨w.heap.size,0,none⟩ (.int .u64 x.1) (by rw [hc0];rfl)
  have e2:(W.setCell ⟨w.heap.size,0,none⟩ (.int .u64 x.1)).cell? ⟨w.heap.size+1,0,none⟩=some (.int .u64 (lastE pre).2):=(World.cell?_setCell_other _ _ _ _ (by intro e;injection e with e1;omega)).trans hc1
  refine⟨(KeepsOthers.setCell _ _ _).trans (KeepsOthers.setCell _ _ _),((Below.refl w.heap.size W).setCell (p:=⟨w.heap.size,0,none⟩) (Nat.le_refl _) _).setCell (p:=⟨w.heap.size+1,0,none⟩) (by simp) _,⟨?_,?_,?_,?_⟩,(hB.setCell (p:=⟨w.heap.size,0,none⟩) (Nat.le_refl _) _).setCell (p:=⟨w.heap.size+1,0,none⟩) (by simp) _⟩
  ·rw [byq]
   exact(World.cell?_setCell_other _ _ _ _ (by intro e;injection e with e1;omega)).trans e1
  ·rw [World.frozen?_setCell,World.frozen?_setCell]
   exact hf0
  ·rw [byq]
   exact World.cell?_setCell_same' _ _ _ (by rw [e2];rfl)
  ·rw [World.frozen?_setCell,World.frozen?_setCell]
   exact hf1
 case done=>
  rintro D ys W hD rfl ⟨⟨hc0,hf0,hc1,hf1⟩,hB⟩ hK
  rw [lastE_eP]at hc0 hc1
  gi_wp2
  refine wpIn_region_quiet_lit hro (by kernel_rfl) (by kernel_rfl) ?_
  repeat(quiet_step_in (first|(gi_at_call 291;exact CallsIn.quiet_of ((hW _).mono fun _ _ h=>⟨h.1,h.2.out⟩))|(refine⟨fun _=>h1,?_⟩;exact CallsIn.quiet_of ((hW _).mono fun _ _ h=>⟨h.1,h.2.out⟩))))
  refine wpQuietIn_nil ?_
  intro _ hw'
  obtain⟨nq,hw2⟩:=hw'
  subst hw2
  gi_wp2
  have hK':(W.drewN nq).heap[D]? = some (.deferred (some [])):=hK
  refine⟨by simp,.inl ⟨_,_,rfl,run_takeDeferred hK',?_⟩⟩
  exact⟨_,results_tmp2 rfl _ _ _,rfl,(hB.trans (⟨rfl,rfl,rfl,Nat.le_refl _,fun _ _=>rfl⟩:Below w.heap.size W (W.drewN nq))).trans (belowK_b (w:=w) (Nat.le_refl _) _ D _ _ (by simp at hD;omega) hK' rfl rfl)⟩
 case stop=>
  rintro D c pre W _ _ h _
  exact h.elim
theorem forpack_frame.calls (A0:Option Addr)(c0:Nat)(l:List Int)(r1 r2:Int)(w:World)(hr0:Kd.C (Kd.int .u64) w A0 l.length l)(hc0:l.length≤c0)(h:forpack_frame.f l=some (r1,r2)) :
  Calls Tryz.prog 235 #[.slice A0 l.length c0] w fun e w'=>e=.returned (.tuple #[.int .u64 r1,.int .i64 r2])∧Below w.heap.size w w':=by
 unfold forpack_frame.f at h
 split at h
 case isFalse=>cases h
 case isTrue hz=>
  obtain⟨r,hwd,h⟩:=Option.bind_eq_some_iff.mp h
  injection h with h
  injection h with h1 h2
  subst h1 h2
  exact(callsIn_wide (n:=3)).1 (frame_in Fence.wide 3 (fun _=>trivial) rfl (Nat.le_refl _) A0 c0 l hz w hr0 r (fun w=>(callsIn_wide (n:=2)).2 (bits_Width.calls _ _ w hwd)))
end Go.Proofs.YthggdomocichdaaGreatDoor.P
