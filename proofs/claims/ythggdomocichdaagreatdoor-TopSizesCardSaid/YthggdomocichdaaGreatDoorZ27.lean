/- Put together: PadB, Pad. -/
import Derived.Test.YthggdomocichdaaGreatDoorZ16
set_option maxRecDepth 100000
set_option linter.unusedVariables false
set_option linter.unusedSimpArgs false
namespace Go.Proofs.YthggdomocichdaaGreatDoor.P
open Go.RowKit Go.Shelf Go.Proofs.YthggdomocichdaaGreatDoor.Kit Go.Proofs.YthggdomocichdaaGreatDoorW.PrintWords Go.Proofs.YthggdomocichdaaGreatDoorW.PrintLast Go.Proofs.YthggdomocichdaaGreatDoorW.PrintMore
attribute [local go_sem] Oper.semAt_some
def sz (k:Nat):Int:=64*4 ^ k
def pairs (j:Nat):List (Int×Int):=(List.range j).map fun k:Nat=>((k:Int),sz k)
theorem bZz (j:Nat):pairs (j+1)=pairs j ++ [((j:Int),sz j)]:=by
 unfold pairs
 rw [List.range_succ,List.map_append]
 rfl
theorem pairs_length (j:Nat):(pairs j).length=j:=by simp [pairs]
abbrev encP (p:Int×Int):Array Value:=#[.int .i64 p.1,.int .i64 p.2]
theorem sz_facts (k:Nat)(h:k<9):decide (sz k≤4194304)=true∧wrap64 (sz k*4)=sz (k+1)∧wrap64 ((k:Int)+1)=((k+1:Nat):Int):=by
 have key:∀ k:Fin 9,decide (sz (k:Nat)≤4194304)=true∧wrap64 (sz (k:Nat)*4)=sz ((k:Nat)+1)∧wrap64 (((k:Nat):Int)+1)=(((k:Nat)+1:Nat):Int):=by decide +kernel
 exact key ⟨k,h⟩
def intOf : Value→Int | .int _ q=>q | _=>0
set_option maxHeartbeats 2000000 in
theorem sizes_in (F:Fence)(n:Nat)(h29:F.fn 86)(hro:F.round=none)(hn:1≤n)(l n₀ : Nat)(J Jx:List (Int×Int)→World→Prop)
  (hY:∀ pre x W,J pre W→pre.length<9→YieldAt F (n-1) Tryz.prog l (encP x) W fun e W'=>
   (e=.returned (.bool true)∧J (pre ++ [x]) W'∧Below n₀ W W')∨(e=.returned (.bool false)∧Jx (pre ++ [x]) W'))
  (W:World) (h0:J [] W) :
  CallsIn F n Tryz.prog 86 #[.func (.yield l) #[] #[]] W fun e W'=>(∃ v,e=.returned v) ∧
   ((∃ ys,ys=pairs 9∧J ys W')∨(∃ pre,(∃ j,j≤9∧pre=pairs j)∧Jx pre W')):=by
 refine callsIn_of_wp Tryz.func86 rfl h29 ?_ hro
 simp only [Tryz.ntmps86,List.size_toArray,List.length_cons,List.length_nil,Nat.reduceAdd,Nat.reduceSub,Array.replicate_succ,Array.replicate_zero,List.push_toArray,List.append_toArray,List.nil_append,List.cons_append]
 gi_wp2
 gi_loopw [2,3] (fun p q wr=>∃ k:Nat,k≤9∧p=.int .i64 (k:Int)∧q=.int .i64 (sz k)∧J (pairs k) wr) (fun p q wr=>9-(intOf p).toNat)
 case atStart=>exact⟨0,by decide,rfl,rfl,h0⟩
 case round=>
  obtain⟨k,hk,rfl,rfl,hJs⟩:=hrel
  by_cases h9:k<9
  ·obtain⟨c1,c2,c3⟩:=sz_facts k h9
   have c1':sz k≤4194304:=of_decide_eq_true c1
   obtain⟨fn,tmps,assign,body,hy,hR⟩:=hY (pairs k) ((k:Int),sz k) wr hJs (by rw [pairs_length];exact h9)
   dsimp only [encP]at hy
   gi_wp2
   refine hR.mono ?_
   rintro e W3 (⟨rfl,hJ3,hk3⟩|⟨rfl,hJx3⟩)
   ·gi_wp2
    go_roundw
    case rel=>exact⟨k+1,h9,rfl,by rw [c2],by rw [bZz];exact hJ3⟩
    case measure=>exact(by clear c2 c3;show 9-((k:Int)+1).toNat<9-((k:Int)).toNat;omega)
   ·gi_wp2
    refine bodyPost_ret (results_none rfl _ _ _) rfl ?_
    exact⟨⟨_,rfl⟩,.inr ⟨pairs (k+1),⟨k+1,h9,rfl⟩,by rw [bZz];exact hJx3⟩⟩
  ·obtain rfl:k=9:=by omega
   have c1:decide (sz 9≤4194304)=false:=by decide +kernel
   have c1':¬ sz 9≤4194304:=of_decide_eq_false c1
   gi_wp2
   go_end0
   exact⟨⟨_,rfl⟩,.inl hJs⟩
theorem bHz (F:Fence)(n:Nat)(h29:F.fn 86)(hro:F.round=none)(hn:1≤n)(n₀ : Nat)(w:World) :
  SeqStopsK F n Tryz.prog 86 #[] encP (Below n₀) (fun ys=>ys=pairs 9) (fun pre=>∃ j,j≤9∧pre=pairs j) 9 w:=fun l J Jx W hW _ _ hY h0=>
 sizes_in F n h29 hro hn l n₀ J Jx hY W h0
def outOf (k:Int)(pre:List (Int×Int)):Int:=pre.foldl (fun o p=>if p.1=k then p.2 else o) 0
theorem b0z (k:Int)(pre:List (Int×Int))(x:Int×Int):outOf k (pre ++ [x])=if x.1=k then x.2 else outOf k pre:=by simp [outOf]
theorem bWq (F:Fence)(n:Nat)(h19:F.fn 44)(hro:F.round=none)(w:World):CallsIn F n Tryz.prog 44 #[] w fun e w'=>e=.returned (.func (.func 86) #[] #[])∧w'=w:=by
 refine callsIn_of_wp Tryz.func44 rfl h19 ?_ hro
 simp only [Tryz.ntmps44,List.size_toArray,List.length_cons,List.length_nil,Nat.reduceAdd,Nat.reduceSub,Array.replicate_succ,Array.replicate_zero,List.push_toArray,List.append_toArray,List.nil_append,List.cons_append]
 gi_wp2
 go_ret
 exact⟨rfl,rfl⟩
set_option maxHeartbeats 2000000 in
theorem Size_in (F:Fence)(n:Nat)(h12:F.fn 59)(h19:F.fn 44)(h29:F.fn 86)(hro:F.round=none)(hn:3≤n)(k:Int)(w:World) :
  CallsIn F n Tryz.prog 59 #[.int .i64 k] w fun e W'=>e=.returned (.int .i64 (outOf k (pairs 9)))∧Below w.heap.size w W':=by
 have h1:1≤n:=by omega
 refine callsIn_of_wp_marks Tryz.func59 rfl h12 ?_ hro
 simp only [Tryz.ntmps59,List.size_toArray,List.length_cons,List.length_nil,Nat.reduceAdd,Nat.reduceSub,Array.replicate_succ,Array.replicate_zero,List.push_toArray,List.append_toArray,List.nil_append,List.cons_append]
 gi_wp2_with (gi_at_call 44;refine(bWq F (n-1) h19 hro _).mono ?_;rintro e w' ⟨rfl,rfl⟩)
 have hs:=aNz w (.int .i64 k) 3
 have hb:=aNz (w.alloc (.cells #[.int .i64 k] 3)) (.int .i64 0) 3
 rw [World.size_alloc]at hb
 have hB0:Below w.heap.size w ((w.alloc (.cells #[.int .i64 k] 3)).alloc (.cells #[.int .i64 0] 3)):=((Below.refl _ w).alloc (Nat.le_refl _) _).alloc (by simp) _
 refine wpIn_rangeFunc_ownF hro h1 (gf:=86) (lb:=#[]) rfl h29 (enters_of Tryz.func86 (by kernel_rfl) rfl)
  (bHz F (n-1) h29 hro (by omega) w.heap.size _) belowK_t (belowK_b (by simp;omega)) (Below.refl _ _) (fun _=>rfl)
  (fun pre W=>(W.cell? ⟨w.heap.size,0,none⟩=some (.int .i64 k)∧W.cell? ⟨w.heap.size+1,0,none⟩=some (.int .i64 (outOf k pre))∧W.frozen? ⟨w.heap.size+1,0,none⟩=false)∧Below w.heap.size w W)
  (fun _ _ _=>False)
  (OwnFrom.and (Own.from (fun s A B row hs hg hr=>⟨cell_kept hs.1 hg hr,cell_kept hs.2.1 hg hr,(frozen_kept hs.2.1 hg hr).trans hs.2.2⟩) _) (ownFrom_below (Nat.le_refl _) (by simp;omega)))
  (fun _ _ _ _ _ hs _ _=>hs)
  ⟨⟨aIq _ hs.1,hb.1,hb.2⟩,hB0⟩
  (fun x=>{ tmps:=#[.int .i64 k,.pointer (some ⟨w.heap.size,0,none⟩),.int .i64 0,.pointer (some ⟨w.heap.size+1,0,none⟩),.int .i64 x.1,.int .i64 x.2,.func (.func 86) #[] #[],.int .i64 x.1,.int .i64 x.2,undef,undef,undef,undef,undef],defers:=[] }) ?assign ?body ?done ?stop
 case assign=>
  intro l x W K hK
  gi_wp2
  exact hK
 case body=>
  rintro l pre x W ⟨⟨hc0,hc,hf⟩,hB⟩ _
  gi_wp2
  ·rename_i hx
   have hx':x.1=k:=eq_of_beq hx
   exact⟨KeepsOthers.setCell _ _ _,(Below.refl w.heap.size W).setCell (p:=⟨w.heap.size+1,0,none⟩) (by simp) _,⟨(World.cell?_setCell_other _ _ _ _ (by intro e;injection e with e1;omega)).trans hc0,by rw [b0z,if_pos hx'];exact World.cell?_setCell_same' _ _ _ (by rw [hc];rfl),by rw [World.frozen?_setCell];exact hf⟩,hB.setCell (p:=⟨w.heap.size+1,0,none⟩) (by simp) _⟩
  ·rename_i hx
   have hx':¬ x.1=k:=fun e=>by simp [e]at hx
   exact⟨KeepsOthers.refl _,Below.refl _ _,⟨hc0,by rw [b0z,if_neg hx'];exact hc,hf⟩,hB⟩
 case done=>
  rintro D ys W hD rfl ⟨⟨_,hc,_⟩,hB⟩ hK
  gi_wp2
  refine⟨by simp,.inl ⟨_,_,rfl,run_takeDeferred hK,?_⟩⟩
  exact⟨_,results_tmp rfl _ _ _,rfl,hB.trans (belowK_b (w:=w) (Nat.le_refl _) W D _ _ (by simp at hD;omega) hK rfl rfl)⟩
 case stop=>
  rintro D c pre W _ _ h _
  exact h.elim
def bk (n:Int)(ps:List (Int×Int)):Option (Int×Int):=ps.find? fun p=>decide (n≤wrap64 (p.2-4))
theorem bk_hit {n:Int}{pre:List (Int×Int)}{x:Int×Int}(h:bk n pre=none)(hx:n≤wrap64 (x.2-4)):bk n (pre ++ [x])=some x:=by
 unfold bk at *
 rw [List.find?_append,h]
 simp [hx]
theorem bk_miss {n:Int}{pre:List (Int×Int)}{x:Int×Int}(h:bk n pre=none)(hx:¬ n≤wrap64 (x.2-4)):bk n (pre ++ [x])=none:=by
 unfold bk at *
 rw [List.find?_append,h]
 simp
 omega
theorem pairs_add (j m:Nat):∃ r,pairs (j+m)=pairs j++r:=⟨_,by unfold pairs;rw [List.range_add,List.map_append]⟩
theorem bk_pre {n:Int}{j:Nat}{p:Int×Int}(hj:j≤9)(h:bk n (pairs j)=some p):bk n (pairs 9)=some p:=by
 obtain⟨r,hr⟩:=pairs_add j (9-j)
 rw [show j+(9-j)=9 by omega]at hr
 unfold bk at *
 rw [hr,List.find?_append,h]
 rfl
def arz (n:Int):Int×Int:=if n<0 then(0,1)else match bk n (pairs 9)with|none=>(0,4)|some p=>(p.1,0)
set_option maxHeartbeats 2000000 in
theorem Bucket_in (F:Fence)(n:Nat)(h10:F.fn 15)(h19:F.fn 44)(h29:F.fn 86)(hro:F.round=none)(hn:3≤n)(k:Int)(hk:¬ k<0)(w:World) :
  CallsIn F n Tryz.prog 15 #[.int .i64 k] w fun e W'=>e=.returned (.tuple #[.int .i64 (arz k).1,.int .i64 (arz k).2])∧Below w.heap.size w W':=by
 have h1:1≤n:=by omega
 have ck:decide (k<0)=false:=decide_eq_false hk
 have hbp:arz k=match bk k (pairs 9)with|none=>(0,4)|some p=>(p.1,0):=if_neg hk
 refine callsIn_of_wp_marks Tryz.func15 rfl h10 ?_ hro
 simp only [Tryz.ntmps15,List.size_toArray,List.length_cons,List.length_nil,Nat.reduceAdd,Nat.reduceSub,Array.replicate_succ,Array.replicate_zero,List.push_toArray,List.append_toArray,List.nil_append,List.cons_append]
 gi_wp2_with (gi_at_call 44;refine(bWq F (n-1) h19 hro _).mono ?_;rintro e w' ⟨rfl,rfl⟩)
 have hs:=aNz w (.int .i64 k) 3
 have hb:=aNz (w.alloc (.cells #[.int .i64 k] 3)) (.int .i64 (-1)) 3
 rw [World.size_alloc]at hb
 have hB0:Below w.heap.size w ((w.alloc (.cells #[.int .i64 k] 3)).alloc (.cells #[.int .i64 (-1)] 3)):=((Below.refl _ w).alloc (Nat.le_refl _) _).alloc (by simp) _
 refine wpIn_rangeFunc_ownF hro h1 (gf:=86) (lb:=#[]) rfl h29 (enters_of Tryz.func86 (by kernel_rfl) rfl)
  (bHz F (n-1) h29 hro (by omega) w.heap.size _) belowK_t (belowK_b (by simp;omega)) (Below.refl _ _) (fun _=>rfl)
  (fun pre W=>(bk k pre=none∧W.cell? ⟨w.heap.size,0,none⟩=some (.int .i64 k)∧W.cell? ⟨w.heap.size+1,0,none⟩=some (.int .i64 (-1))∧W.frozen? ⟨w.heap.size+1,0,none⟩=false)∧Below w.heap.size w W)
  (fun c pre W=>(c=.exit 0∧∃ p,bk k pre=some p∧W.cell? ⟨w.heap.size+1,0,none⟩=some (.int .i64 p.1))∧Below w.heap.size w W)
  (OwnFrom.and (Own.from (fun s A B row hs hg hr=>⟨hs.1,cell_kept hs.2.1 hg hr,cell_kept hs.2.2.1 hg hr,(frozen_kept hs.2.2.1 hg hr).trans hs.2.2.2⟩) _) (ownFrom_below (Nat.le_refl _) (by simp;omega)))
  (fun c=>OwnFrom.and (Own.from (fun s A B row hs hg hr=>by obtain⟨hc,p,hp,hcell⟩:=hs;exact⟨hc,p,hp,cell_kept hcell hg hr⟩) _) (ownFrom_below (Nat.le_refl _) (by simp;omega)))
  ⟨⟨rfl,aIq _ hs.1,hb.1,hb.2⟩,hB0⟩
  (fun x=>{ tmps:=#[.int .i64 k,.pointer (some ⟨w.heap.size,0,none⟩),.int .i64 0,.int .i64 0,.pointer (some ⟨w.heap.size+1,0,none⟩),.int .i64 x.1,.int .i64 x.2,.int .i64 k,.bool false,.func (.func 86) #[] #[],.int .i64 x.1,.int .i64 x.2,undef,undef,undef,undef,undef,undef,undef,undef],defers:=[] }) ?assign ?body ?done ?stop
 case assign=>
  intro l x W K hK
  gi_wp2
  exact hK
 case body=>
  rintro l pre x W ⟨⟨hp,hc0,hc,hf⟩,hB⟩ _
  gi_wp2
  ·rename_i hx
   exact⟨KeepsOthers.setCell _ _ _,⟨rfl,x,bk_hit hp (by first|exact hx|exact of_decide_eq_true hx|omega),World.cell?_setCell_same' _ _ _ (by rw [hc];rfl)⟩,hB.setCell (p:=⟨w.heap.size+1,0,none⟩) (by simp) _⟩
  ·rename_i hx
   exact⟨KeepsOthers.refl _,Below.refl _ _,⟨bk_miss hp (by first|exact hx|exact of_decide_eq_false hx|omega),hc0,hc,hf⟩,hB⟩
 case done=>
  rintro D ys W hD rfl ⟨⟨hp,_,hc,_⟩,hB⟩ hK
  gi_wp2
  refine⟨by simp,.inl ⟨_,_,rfl,run_takeDeferred hK,?_⟩⟩
  refine⟨_,results_tmp2 rfl _ _ _,?_,hB.trans (belowK_b (w:=w) (Nat.le_refl _) W D _ _ (by simp at hD;omega) hK rfl rfl)⟩
  rw [hbp,hp]
  rfl
 case stop=>
  rintro D c pre W hD ⟨j,hj,rfl⟩ ⟨⟨rfl,p,hp,hc⟩,hB⟩ hK
  have hp9:=bk_pre hj hp
  have hpos:decide (p.1<0)=false:=by
   have hm:=List.mem_of_find?_eq_some hp9
   simp only [pairs,List.mem_map]at hm
   obtain⟨i,_,rfl⟩:=hm
   exact decide_eq_false (by simp)
  gi_wp2
  refine⟨by simp,.inl ⟨_,_,rfl,run_takeDeferred hK,?_⟩⟩
  refine⟨_,results_tmp2 rfl _ _ _,?_,hB.trans (belowK_b (w:=w) (Nat.le_refl _) W D _ _ (by simp at hD;omega) hK rfl rfl)⟩
  rw [hbp,hp9]
  rfl
def aOz (k:Int):Int:=outOf k (pairs 9)
def pad_Size.f (k:Int):Option Int:=some (aOz k)
def pad_Bucket.f (n:Int):Option (Int×Int):=some (arz n)
theorem pad_Size.calls (a0:Int)(r:Int)(w:World)(h:pad_Size.f a0=some r):Calls Tryz.prog 59 #[.int .i64 a0] w fun e w'=>e=.returned (.int .i64 r)∧Below w.heap.size w w':=by
 obtain rfl:=Option.some.inj h
 exact(callsIn_wide (n:=3)).1 (Size_in Fence.wide 3 trivial trivial trivial rfl (Nat.le_refl _) a0 w)
theorem pad_Bucket.calls (a0:Int)(r1 r2:Int)(w:World)(h:pad_Bucket.f a0=some (r1,r2)):Calls Tryz.prog 15 #[.int .i64 a0] w fun e w'=>e=.returned (.tuple #[.int .i64 r1,.int .i64 r2])∧Below w.heap.size w w':=by
 have h:=Option.some.inj h
 by_cases c:a0<0
 ·unfold arz at h
  rw [if_pos c]at h
  injection h with h1 h2
  subst h1 h2
  have ck:decide (a0<0)=true:=decide_eq_true c
  go_enter Tryz.func15,Tryz.ntmps15
  go_wp2
  go_ret2
  exact⟨rfl,aaq (Below.refl _ _) _⟩
 ·have:=(callsIn_wide (n:=3)).1 (Bucket_in Fence.wide 3 trivial trivial trivial rfl (Nat.le_refl _) a0 c w)
  rw [h]at this
  exact this
end Go.Proofs.YthggdomocichdaaGreatDoor.P
namespace Go.Proofs.YthggdomocichdaaGreatDoor.P
open Go.RowKit Go.Proofs.YthggdomocichdaaGreatDoor.Kit Go.Proofs.YthggdomocichdaaGreatDoor.Var Go.Proofs.YthggdomocichdaaGreatDoorW.PrintWords Go.Proofs.YthggdomocichdaaGreatDoorW.PrintLast Go.Proofs.YthggdomocichdaaGreatDoorW.PrintMore
theorem pairs9 : pairs 9=[(0,64),(1,256),(2,1024),(3,4096),(4,16384),(5,65536),(6,262144),(7,1048576),(8,4194304)]:=by decide +kernel
theorem bDq (k:Int):aOz k=if k=8 then 4194304 else if k=7 then 1048576 else if k=6 then 262144 else if k=5 then 65536 else if k=4 then 16384 else if k=3 then 4096 else if k=2 then 1024 else if k=1 then 256 else if k=0 then 64 else 0:=by
 unfold aOz outOf
 rw [pairs9]
 simp only [List.foldl_cons,List.foldl_nil,eq_comm (b:=k)]
theorem b4z (n:Int):arz n=if n<0 then(0,1)else if n≤60 then(0,0)else if n≤252 then(1,0)else if n≤1020 then(2,0)else if n≤4092 then(3,0)else if n≤16380 then(4,0)else if n≤65532 then(5,0)else if n≤262140 then(6,0)else if n≤1048572 then(7,0)else if n≤4194300 then(8,0)else(0,4):=by
 unfold arz bk
 rw [pairs9]
 have e0:wrap64 (64-4)=60:=by decide +kernel
 have e1:wrap64 (256-4)=252:=by decide +kernel
 have e2:wrap64 (1024-4)=1020:=by decide +kernel
 have e3:wrap64 (4096-4)=4092:=by decide +kernel
 have e4:wrap64 (16384-4)=16380:=by decide +kernel
 have e5:wrap64 (65536-4)=65532:=by decide +kernel
 have e6:wrap64 (262144-4)=262140:=by decide +kernel
 have e7:wrap64 (1048576-4)=1048572:=by decide +kernel
 have e8:wrap64 (4194304-4)=4194300:=by decide +kernel
 simp only [List.find?_cons,List.find?_nil,e0,e1,e2,e3,e4,e5,e6,e7,e8]
 clear e0 e1 e2 e3 e4 e5 e6 e7 e8
 split
 ·rfl
 ·by_cases c0:n≤60
  ·simp [c0]
  ·by_cases c1:n≤252
   ·simp [c0,c1]
   ·by_cases c2:n≤1020
    ·simp [c0,c1,c2]
    ·by_cases c3:n≤4092
     ·simp [c0,c1,c2,c3]
     ·by_cases c4:n≤16380
      ·simp [c0,c1,c2,c3,c4]
      ·by_cases c5:n≤65532
       ·simp [c0,c1,c2,c3,c4,c5]
       ·by_cases c6:n≤262140
        ·simp [c0,c1,c2,c3,c4,c5,c6]
        ·by_cases c7:n≤1048572
         ·simp [c0,c1,c2,c3,c4,c5,c6,c7]
         ·by_cases c8:n≤4194300
          ·simp [c0,c1,c2,c3,c4,c5,c6,c7,c8]
          ·simp [c0,c1,c2,c3,c4,c5,c6,c7,c8]
theorem aXk (n:Int)(h0:0≤n)(h:n≤4194300):(arz n).2=0∧0≤(arz n).1∧(arz n).1≤8∧n+4≤aOz (arz n).1∧aOz (arz n).1≤4194304∧64≤aOz (arz n).1:=by
 rw [b4z,if_neg (by omega)]
 repeat' split
 all_goals first|omega|(rw [bDq];simp;try omega)
theorem bucket_long (n:Int)(h:4194300<n):arz n=(0,4):=by
 rw [b4z,if_neg (by omega),if_neg (by omega),if_neg (by omega),if_neg (by omega),if_neg (by omega),if_neg (by omega),if_neg (by omega),if_neg (by omega),if_neg (by omega),if_neg (by omega)]
def padP (b:List Int):List Int×Int:=if 4194300<b.length then([],4)else(fixB 4 (b.length:Int)++b++List.replicate ((aOz (arz (b.length:Int)).1).toNat-4-b.length) 0,0)
def pad_Pad.f (b:List Int):Option (List Int×Int):=if b.length<140737488355328 then some (padP b)else none
theorem R_puts {W0:World}{g n cap base:Nat}{ok:Nat→Prop}(hg:W0.heap.size≤g)(ys:List Int):∀ (o:Nat) (W:World) (xs:List Int),Kd.R (Kd.int .u8) 5 W base ok (.slice (some ⟨g,0,none⟩) n cap) xs→o+ys.length≤xs.length→Below W0.heap.size W0 W →
  Kd.R (Kd.int .u8) 5 (W.setCells g o (ys.map (Value.int .u8))) base ok (.slice (some ⟨g,0,none⟩) n cap) (xs.take o++ys++xs.drop (o+ys.length))∧Below W0.heap.size W0 (W.setCells g o (ys.map (Value.int .u8))):=by
 induction ys with
 |nil=>
  intro o W xs h _ hB
  rw [List.append_nil,List.length_nil,Nat.add_zero,List.take_append_drop]
  exact⟨h,hB⟩
 |cons y ys ih=>
  intro o W xs h hl hB
  rw [List.length_cons]at hl
  have h1:=Kd.bCq h (o:Int) y
  rw [Int.toNat_natCast]at h1
  have h2:=ih (o+1) (W.setCell ⟨g,o,none⟩ (.int .u8 y)) (xs.set o y) h1 (by rw [List.length_set];omega) (adq hB hg)
  have e:(xs.set o y).take (o+1)++ys++(xs.set o y).drop (o+1+ys.length)=xs.take o++(y :: ys)++xs.drop (o+(y :: ys).length):=by
   rw [List.take_set,List.drop_set,if_pos (by omega),List.length_cons,show o+1+ys.length=o+(ys.length+1)by omega,List.take_add_one,List.getElem?_eq_getElem (by omega)]
   rw [List.set_append,if_neg (by rw [List.length_take];omega),List.length_take,show o-min o xs.length=0 by omega]
   simp
  rw [e]at h2
  exact h2
theorem copy_at {P:Program}{ops:Array Oper}{rest:List Oper}{o:Oper}{a:Act}{Q:Exit→Act→World→Prop}{w0 W:World}(hgd:o.guard=none)(s x:Operand)(t t':TypeId){N:Tmp}(hN:o.dst=some N)
  (ho:o.op=.call { callee := .builtin .copy,args:=#[s,x],argTypes:=#[t,t'] }) (ht:P.underlying t=some (.slice 5)) (hinfo:(P.info? 5).map (·.size)=some 1)
  (g off n cap dl dc:Nat) (xs ys:List Int) (A:Option Addr) (c:Nat) (base:Nat) (ok:Nat→Prop) (hs:a.eval s=.slice (some ⟨g,off,none⟩) dl dc) (hx:a.eval x=.slice A ys.length c)
  (HO:Kd.R (Kd.int .u8) 5 W base ok (.slice (some ⟨g,0,none⟩) n cap) xs) (HR:Kd.C (Kd.int .u8) W A ys.length ys) (hfit:off+ys.length≤xs.length) (hdl:ys.length≤dl) (hg:w0.heap.size≤g) (HB:Below w0.heap.size w0 W)
  (h:∀ w1,Kd.R (Kd.int .u8) 5 w1 base ok (.slice (some ⟨g,0,none⟩) n cap) (xs.take off++ys++xs.drop (off+ys.length))→Below w0.heap.size w0 w1→wpList P ops Q rest (a.put o.dst (.int .i64 (ys.length:Int))) w1) :
  wpList P ops Q (o :: rest) a W:=by
 obtain⟨r1,r2⟩:=R_puts hg ys off W xs HO hfit HB
 have fin:∀ w1,(Builtin.copy_ #[t,t'] o.type #[.slice (some ⟨g,off,none⟩) dl dc,.slice A ys.length c]).run P W=.ok (goInt (ys.length:Int)) w1→w1=W.setCells g off (ys.map (Value.int .u8))→wpList P ops Q (o :: rest) a W:=by
  intro w1 hr e
  subst e
  refine wpList_plain hgd fun K hK=>?_
  unfold Oper.wp execOp
  simp only [ho,resolve,invoke,builtin,Sem.run_bind,Sem.run_pure,Result.andThen_ok,List.map_toArray,List.map_cons,List.map_nil,hs,hx,hr]
  exact hK _ _ (h _ r1 r2)
 rcases Nat.eq_zero_or_pos ys.length with h0|h0
 ·have e:ys=[]:=List.eq_nil_of_length_eq_zero h0
  subst e
  exact fin W (run_copy_none W t t' o.type 5 _ A dl dc 0 c ht hinfo (Nat.zero_min _)) rfl
 ·obtain⟨ad,rfl,_⟩:=Kd.asz HR 0 (by omega) (by omega)
  have hsrc:∀ j u,(ys.map (Value.int .u8))[j]? = some u→W.cell? (ad.add j)=some u:=by
   intro j u hu
   have hj:j<ys.length:=by
    rcases Nat.lt_or_ge j ys.length with h|h
    ·exact h
    ·rw [List.getElem?_eq_none (by rw [List.length_map];exact h)]at hu
     cases hu
   obtain⟨ad2,e2,hc⟩:=Kd.asz HR (j:Int) (by omega) (by omega)
   cases e2
   rw [Int.toNat_natCast]at hc
   rw [hc,←hu,List.getElem?_map,List.getElem?_eq_getElem hj]
   simp [rd,List.getD_eq_getElem?_getD,List.getElem?_eq_getElem hj]
  have hcell:∀ j,j<ys.length→W.cell? ⟨g,off+j,none⟩=some (.int .u8 (rdOf 0 xs ((off+j:Nat):Int)))∧W.frozen? ⟨g,off+j,none⟩=false:=by
   intro j hj
   have hn:=(Kd.ack HO).1
   have:=Kd.aUq 0 HO ((off+j:Nat):Int) (by omega) (by omega)
   rwa [Int.toNat_natCast]at this
  have hml:(ys.map (Value.int .u8)).length=ys.length:=List.length_map ..
  have hr:=run_copy_cells (P:=P) W t t' o.type 5 g off dl dc ad ys.length c (ys.map (Value.int .u8)) ht hinfo (by rw [hml];exact(Nat.min_eq_left hdl).symm) hsrc
   (fun j hj=>by rw [(hcell j (by omega)).1];rfl) (fun j hj=>(hcell j (by omega)).2) (by intro u hu;simp only [List.mem_map]at hu;obtain⟨q,_,rfl⟩:=hu;rfl)
  rw [hml]at hr
  exact fin _ hr rfl
set_option maxHeartbeats 1000000 in
theorem pad_Pad.calls (A0:Option Addr)(c0:Nat)(b:List Int)(r1:List Int)(r2:Int)(w:World)(hr0:Kd.C (Kd.int .u8) w A0 b.length b)(hc0:b.length≤c0)(h:pad_Pad.f b=some (r1,r2)) :
  Calls Tryz.prog 87 #[.slice A0 b.length c0] w fun e w'=>∃ v0_:Value,e=.returned (.tuple #[v0_,.int .i64 r2])∧Kd.R (Kd.int .u8) 5 w' w.heap.size (fun _=>True) v0_ r1∧Below w.heap.size w w':=by
 unfold pad_Pad.f at h
 split at h
 case isFalse=>cases h
 case isTrue hl=>
  injection h with h
  unfold padP at h
  by_cases c:4194300<b.length
  ·rw [if_pos c]at h
   injection h with h1 h2
   subst h1 h2
   have HBK:=Qz.k (pad_Bucket.calls (b.length:Int) 0 4 w (by unfold pad_Bucket.f;rw [bucket_long _ (by omega)]))
   clear hr0 hc0 hl c
   go_enter Tryz.func87,Tryz.ntmps87
   go_wp2_with (go_at_call 15;refine HBK.out.mono ?_;rintro e w1 ⟨rfl,hb⟩;have HB:=Qz.k hb;clear hb)
   go_ret2
   exact⟨_,rfl,Kd.ayz _ _ _ _ _,HB.out⟩
  ·rw [if_neg c]at h
   injection h with h1 h2
   subst h1 h2
   obtain⟨q1,q2,q3,q4,q5,q6⟩:=aXk (b.length:Int) (by omega) (by omega)
   generalize hk:(arz (b.length:Int)).1=k at *
   have HBK:=Qz.k (pad_Bucket.calls (b.length:Int) k 0 w (by unfold pad_Bucket.f;rw [←hk,←q1]))
   obtain⟨m,hm⟩:∃ m:Nat,aOz k=(m:Int):=⟨(aOz k).toNat,by omega⟩
   rw [hm]at q4 q5 q6 ⊢
   rw [Int.toNat_natCast]
   have HSZ:=Qz.k (show pad_Size.f k=some (m:Int)by unfold pad_Size.f;rw [hm])
   obtain⟨kf,hkf⟩:=(bSk (b.length:Int) 4 (by decide)).get
   have HFX:=Qz.k hkf
   have hfl:=ank (b.length:Int) 4
   generalize fixB 4 (b.length:Int)=fx at HFX hfl ⊢
   have HN:=Qz.k (show b.length+4≤m∧m≤4194304∧fx.length=4∧b.length≤c0∧64≤m from⟨by omega,by omega,hfl,hc0,by omega⟩)
   have HR:=Qz.k hr0
   have hwb:IntKind.u64.wrap (b.length:Int)=(b.length:Int):=aOq _ (by omega) (by omega)
   have p1:(0≤(m:Int))=True:=eq_true (by omega)
   clear hr0 hc0 hl c q1 q2 q3 q4 q5 q6 hm hk hkf hfl
   go_enter Tryz.func87,Tryz.ntmps87
   go_wp2_with (first
    |(go_at_call 15;refine HBK.out.mono ?_;rintro e w1 ⟨rfl,hb⟩;have HB1:=Qz.k hb;clear hb)
    |(go_at_call 59;refine(pad_Size.calls _ _ _ HSZ.out).mono ?_;rintro e w2 ⟨rfl,hb⟩;have HB2:=Qz.k (aaz HB1.out hb);clear hb)
    |((with_reducible refine ahk (N:=18) rfl ?_);go_loud (refine Kd.bSq (Kd.int .u8) (w0:=w) w.heap.size 5 rfl (N:=18) rfl 27 _ _ rfl (m:Int) rfl rfl Tryz.underlying27 (.int .u8 0) 1 info5 rfl (by decide) (by omega) 0 (ok:=fun _=>True) (okp:=fun _=>True) rfl (fun _ hk=>hk) trivial (by omega) (by have:=HN.out;omega) HB2.out HB2.out.size ?_;intro v3 w3 ho hb hg_ hnew_;clear hg_ hnew_;rw [Int.toNat_natCast]at ho;obtain⟨z,hz⟩:∃ z:List Int,List.replicate m 0=z:=⟨_,rfl⟩;have hzl:z.length=m:=(by rw [←hz,List.length_replicate]);rw [hz]at ho;have HZ:=Qz.k hz;have HZL:=Qz.k hzl;have HO3:=Qz.k ho;have HB3:=Qz.k hb;obtain⟨g,q3,e3,gb,gl,gc⟩:=Kd.bjz ho (by have:=HN.out;omega);subst e3;have HGB:=Qz.k gb;have HQ:=Qz.k (Kd.ack ho).2.1;have z1:(4≤z.length)=True:=eq_true (by have:=HN.out;omega);have z2:(q3=4)=False:=eq_false (by have:=HN.out;have:=HQ.out;omega);have z3:(4≤(z.length:Int))=True:=eq_true (by have:=HN.out;omega);have z4:(4≤q3)=True:=eq_true (by have:=HN.out;have:=HQ.out;omega);have z5:z.length≤q3:=HQ.out;have z6:(4≤(q3:Int))=True:=eq_true (by have:=HN.out;omega);clear ho hb hz hzl gb gl gc))
    |(go_at_call 96;refine(cursor_Fix.calls kf _ _ _ _ HFX.out).mono ?_;rintro e w4 ⟨v4,rfl,ho4,hb⟩;have HO4:=Qz.k (Kd.ahz HO3.out hb);have HB4:=Qz.k (aaz HB3.out hb);have HX4:=Qz.k ho4;clear hb ho4;obtain⟨AX,qX,eX⟩:=Kd.afz HX4.out;subst eX)
    |((with_reducible refine agk (b := .copy) (xs:=#[.tmp 19,.tmp 23]) rfl ?_);go_loud (refine copy_at (w0:=w) rfl (.tmp 19) (.tmp 23) 27 27 (N:=24) rfl rfl Tryz.underlying27 (by kernel_rfl) g 0 z.length q3 z.length q3 z fx AX qX w.heap.size (fun _=>True) rfl rfl HO4.out (Kd.ack HX4.out).2.2 (by have:=HN.out;have:=HZL.out;omega) (by have:=HN.out;have:=HZL.out;omega) HGB.out HB4.out ?_;intro w5 ho5 hb5;have HO5:=Qz.k ho5;have HB5:=Qz.k hb5;clear ho5 hb5))
    |((with_reducible refine agk (b := .copy) (xs:=#[.tmp 26,.tmp 27]) rfl ?_);go_loud (refine copy_at (w0:=w) rfl (.tmp 26) (.tmp 27) 27 27 (N:=28) rfl rfl Tryz.underlying27 (by kernel_rfl) g 4 z.length q3 (z.length-4) (q3-4) _ b A0 c0 w.heap.size (fun _=>True) rfl rfl HO5.out (Kd.acz HR.out HB5.out) (by have:=HN.out;have:=HZL.out;simp only [List.length_append,List.length_take,List.length_drop];omega) (by have:=HN.out;have:=HZL.out;omega) HGB.out HB5.out ?_;intro w6 ho6 hb6;have HO6:=Qz.k ho6;have HB6:=Qz.k hb6;clear ho6 hb6)))
   trace_state
   go_ret2
   refine⟨_,rfl,?_,HB6.out⟩
   have h6:=HO6.out
   have hz:=HZ.out
   have hn:=HN.out
   have e:(z.take 0++fx++z.drop (0+fx.length)).take 4++b++(z.take 0++fx++z.drop (0+fx.length)).drop (4+b.length)=fx++b++List.replicate (m-4-b.length) 0:=by
    rw [←hz,List.take_zero,List.nil_append,Nat.zero_add,hn.2.2.1]
    congr 1
    ·rw [List.take_append,hn.2.2.1,List.take_of_length_le (by omega)]
     simp
    ·rw [List.drop_append,List.drop_eq_nil_of_le (by omega),List.nil_append,List.drop_replicate,List.drop_replicate,hn.2.2.1]
     congr 1
     omega
   rw [e]at h6
   exact h6
end Go.Proofs.YthggdomocichdaaGreatDoor.P
