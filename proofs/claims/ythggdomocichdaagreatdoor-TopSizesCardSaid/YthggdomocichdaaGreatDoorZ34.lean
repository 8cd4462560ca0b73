/- Put together: Venc2. -/
import Derived.Test.YthggdomocichdaaGreatDoorZ31
set_option maxRecDepth 100000
set_option linter.unusedVariables false
set_option linter.unusedSimpArgs false
namespace Go.Proofs.YthggdomocichdaaGreatDoor.P
open Go.RowKit Go.Shelf Go.Proofs.YthggdomocichdaaGreatDoor.Kit Go.Proofs.YthggdomocichdaaGreatDoor.Var Go.Proofs.YthggdomocichdaaGreatDoorW.PrintWords Go.Proofs.YthggdomocichdaaGreatDoorW.PrintLast Go.Proofs.YthggdomocichdaaGreatDoorW.PrintMore
attribute [local go_sem] Oper.semAt_some
def blz (wf:Nat→List Int×Int)(s:Int×List Int)(t:Nat):Int×List Int:=if s.1=4 then((t:Int),(wf t).1)else if(wf t).1.length<s.2.length then((t:Int),(wf t).1)else s
def bdq (wf:Nat→List Int×Int)(ts:List Nat):Int×List Int:=ts.foldl (blz wf) (4,[])
theorem foldV_snoc (wf:Nat→List Int×Int)(ts:List Nat)(t:Nat):bdq wf (ts ++ [t])=blz wf (bdq wf ts) t:=by simp [bdq,List.foldl_append]
def vencOf (wf:Nat→List Int×Int):List Int:=[(bdq wf (okT wf 4)).1%256]++(bdq wf (okT wf 4)).2
theorem all_call (F:Fence)(n:Nat)(hf:F.fn 84)(hro:F.round=none)(A0:Option Addr)(n0 c0:Nat)(w:World):CallsIn F n Tryz.prog 84 #[.slice A0 n0 c0] w fun e w'=>
  e=.returned (.func (.func 150) #[] #[.pointer (some ⟨w.heap.size,0,none⟩)])∧w'=w.alloc (.cells #[.slice A0 n0 c0] 81):=by
 refine callsIn_of_wp Tryz.func84 rfl hf ?_ hro
 simp only [Tryz.ntmps84,List.size_toArray,List.length_cons,List.length_nil,Nat.reduceAdd,Nat.reduceSub,Array.replicate_succ,Array.replicate_zero,List.push_toArray,List.append_toArray,List.nil_append,List.cons_append]
 gi_wp2
 go_ret
 exact⟨rfl,rfl⟩
theorem turns_ex {B:Nat}{α : Type}{I : α → World→Prop}(h:∀ a,bnk B (I a)):bnk B (fun W=>∃ a,I a W):=fun A l o o' hl ho hc ⟨a,ha⟩=>⟨a,h a A l o o' hl ho hc ha⟩
theorem turns_const {B:Nat}{p:Prop}:bnk B (fun _=>p):=fun _ _ _ _ _ _ _ h=>h
def IV (wf:Nat→List Int×Int)(g1 g2:Nat)(w:World)(s:Int×List Int)(W:World):Prop:=Below w.heap.size w W∧W.heap[g1]? = some (.cells #[.int .i64 s.1] 3 (0,0))∧∃ (A:Option Addr) (c:Nat),W.heap[g2]? = some (.cells #[.slice A s.2.length c] 27 (0,0))∧s.2.length≤c∧Kd.C (Kd.int .u8) W A s.2.length s.2
theorem IV_turns {B:Nat}{wf:Nat→List Int×Int}{g1 g2:Nat}{w:World}{s:Int×List Int}(h:w.heap.size≤B):bnk B (IV wf g1 g2 w s):=
 turns_and (bkq h) (turns_and turns_blk (turns_ex fun A=>turns_ex fun c=>turns_and turns_blk (turns_and turns_const turns_C)))
theorem IV_below {wf:Nat→List Int×Int}{g1 g2:Nat}{w A B:World}{s:Int×List Int}(h:IV wf g1 g2 w s A)(hb:Below A.heap.size A B):IV wf g1 g2 w s B:=by
 obtain⟨h1,h2,a,c,h3,h4,h5⟩:=h
 exact⟨aaz h1 hb,agz h2 hb,a,c,agz h3 hb,h4,Kd.acz h5 hb⟩
set_option maxHeartbeats 8000000 in
theorem VEncode_in (F:Fence)(n:Nat)(hfn:∀ k,F.fn k)(hro:F.round=none)(hn:4≤n)(wf:Nat→List Int×Int)(A0:Option Addr)(c0:Nat)(l:List Int)(w:World)(hl:l.length≤65536)(hbd:(bdq wf (okT wf 4)).2.length≤8*l.length)
  (hWay:∀ (t:Nat),t<4→∀ w1:World,Below w.heap.size w w1→CallsIn F (n-1-1) Tryz.prog 151 #[.slice A0 l.length c0,.int .i64 (t:Int)] w1 fun e w'=>∃ v0_:Value,e=.returned (.tuple #[v0_,.int .i64 (wf t).2])∧Kd.R (Kd.int .u8) 5 w' w1.heap.size (fun _=>True) v0_ (wf t).1∧Below w1.heap.size w1 w') :
  CallsIn F n Tryz.prog 42 #[.slice A0 l.length c0] w fun e w'=>∃ v,e=.returned (.tuple #[v,.int .i64 0])∧Kd.R (Kd.int .u8) 5 w' w.heap.size (fun _=>True) v (vencOf wf)∧Below w.heap.size w w':=by
 have h1:1≤n:=by omega
 have t1:decide (65536<(l.length:Int))=false:=decide_eq_false (by omega)
 have t2:decide (65536<l.length)=false:=decide_eq_false (by omega)
 refine callsIn_of_wp_marks Tryz.func42 rfl (hfn _) ?_ hro
 simp only [Tryz.ntmps42,List.size_toArray,List.length_cons,List.length_nil,Nat.reduceAdd,Nat.reduceSub,Array.replicate_succ,Array.replicate_zero,List.push_toArray,List.append_toArray,List.nil_append,List.cons_append]
 gi_wp2_with (gi_at_call 84;refine(all_call F (n-1) (hfn _) hro _ _ _ _).mono ?_;rintro e w' ⟨rfl,rfl⟩)
 obtain⟨W1,hW1⟩:∃ W1,w.alloc (.cells #[.int .i64 4] 3)=W1:=⟨_,rfl⟩
 obtain⟨W2,hW2⟩:∃ W2,W1.alloc (.cells #[.slice none 0 0] 27)=W2:=⟨_,rfl⟩
 obtain⟨W3,hW3⟩:∃ W3,W2.alloc (.cells #[.slice A0 l.length c0] 81)=W3:=⟨_,rfl⟩
 rw [hW1,hW2,hW3]
 have s1:W1.heap.size=w.heap.size+1:=by rw [←hW1,World.size_alloc]
 have s2:W2.heap.size=w.heap.size+2:=by rw [←hW2,World.size_alloc,s1]
 have s3:W3.heap.size=w.heap.size+3:=by rw [←hW3,World.size_alloc,s2]
 have b23:Below W2.heap.size W2 W3:=by rw [←hW3];exact aaq (Below.refl _ _) _
 have b12:Below W1.heap.size W1 W2:=by rw [←hW2];exact aaq (Below.refl _ _) _
 have b01:Below w.heap.size w W1:=by rw [←hW1];exact aaq (Below.refl _ _) _
 have b13:Below W1.heap.size W1 W3:=aaz b12 b23
 have hB3:Below w.heap.size w W3:=aaz b01 b13
 have k1:W3.heap[w.heap.size]? = some (.cells #[.int .i64 4] 3 (0,0)):=agz (by rw [←hW1];exact akz w _) b13
 have k2:W3.heap[w.heap.size+1]? = some (.cells #[.slice none 0 0] 27 (0,0)):=agz (by rw [←hW2,←s1];exact akz W1 _) b23
 have k3:W3.heap[w.heap.size+1+1]? = some (.cells #[.slice A0 l.length c0] 81 (0,0)):=by rw [←hW3,show w.heap.size+1+1=W2.heap.size from by omega];exact akz W2 _
 clear hW1 hW2 hW3 b23 b12 b01 b13 s1 s2
 refine bYk (α := Nat×Value) hro h1 (gf:=150) (lb:=#[.pointer (some ⟨w.heap.size+1+1,0,none⟩)]) rfl (hfn _) (enters_of Tryz.func150 (by kernel_rfl) rfl)
  (all_yields F (n-1) hfn hro (by omega) wf l A0 c0 (w.heap.size+1+1) w W3 hB3 k3 hWay)
  (fun h k=>⟨h.1.trans k.1,fun o ho hc=>k.2 o (h.2 o ho hc) hc⟩)
  (fun A lp o o' hl ho hc=>⟨bvk o' (by omega) ho,fun o2 h2 hc2=>(World.putObj_heap_other (fun e=>by rw [e,ho]at h2;injection h2 with h2;subst h2;rw [hc]at hc2;cases hc2)).trans h2⟩) (fun _=>rfl)
  (fun pre W=>IV wf w.heap.size (w.heap.size+1) w (bdq wf (pre.map Prod.fst)) W)
  (fun _ _ _=>False)
  (fun pre=>IV_turns (by omega))
  (fun pre A B h hb=>IV_below h hb)
  (fun _ _ _ _ _ _ _ _ _ h=>h)
  (fun pre x A lp o o' hl ho hc h=>by
   obtain⟨h4,a,c,e,hc1,hc2⟩:=h
   exact⟨h4,a,c,e,hc1,turns_C (B:=0) A lp o o' (Nat.zero_le _) ho hc hc2⟩)
  (fun _ _ _ _=>trivial)
  ⟨hB3,k1,none,0,k2,Nat.le_refl _,Kd.a7q _ _⟩
  (fun x=>{ tmps:=#[.slice A0 l.length c0,undef,.slice none 0 0,.int .i64 0,.pointer (some ⟨w.heap.size,0,none⟩),.pointer (some ⟨w.heap.size+1,0,none⟩),.int .i64 (x.1:Int),x.2,.slice A0 l.length c0,.int .i64 (l.length:Int),.bool false,.slice A0 l.length c0,.func (.func 150) #[] #[.pointer (some ⟨w.heap.size+1+1,0,none⟩)],.int .i64 (x.1:Int),x.2,undef,undef,undef,undef,undef,undef,undef,undef,undef,undef,undef,undef,undef,undef,undef,undef],defers:=[] }) ?assign ?body ?done ?stop
 case assign=>
  intro lp x W K hK
  gi_wp2
  exact hK
 case body=>
  rintro lp pre ⟨xt,xv⟩ W ⟨hB,hg1,A,c,hg2,hc,hC⟩ ⟨h4,B,d,ev,hd,hD⟩
  dsimp only at ev h4 hd hD
  subst ev
  have HS:=Qz.k (show bdq wf ((pre ++ [(xt,Value.slice B (wf xt).1.length d)]).map Prod.fst)=blz wf (bdq wf (pre.map Prod.fst)) xt from by rw [List.map_append];exact foldV_snoc _ _ _)
  obtain⟨s,hs⟩:∃ s,bdq wf (pre.map Prod.fst)=s:=⟨_,rfl⟩
  rw [hs]at hg1 hg2 hc hC HS
  obtain⟨b,o⟩:=s
  dsimp only at hg1 hg2 hc hC
  have HST:=Qz.k (show blz wf (b,o) xt=if b=4 then((xt:Int),(wf xt).1)else if(wf xt).1.length<o.length then((xt:Int),(wf xt).1)else(b,o)from rfl)
  obtain⟨r,hr⟩:∃ r,(wf xt).1=r:=⟨_,rfl⟩
  rw [hr]at hd hD HST
  rw [hr]
  have f1:W.cell? ⟨w.heap.size,0,none⟩=some (.int .i64 b):=(aak hg1 0).trans rfl
  have f2:W.cell? ⟨w.heap.size+1,0,none⟩=some (.slice A o.length c):=(aak hg2 0).trans rfl
  have z1:=afk hg1 0
  have z2:=afk hg2 0
  have HG1:=Qz.k hg1
  have HG2:=Qz.k hg2
  have HB:=Qz.k hB
  have HC:=Qz.k hC
  have HCC:=Qz.k hc
  have HD:=Qz.k hD
  have HDD:=Qz.k hd
  have HK3:=Qz.k k3
  rw [hr]at HS
  clear hg1 hg2 hB hC hD hc hd k1 k2 k3 hs hr
  dsimp only
  have take_:∀ V:World,V=(W.setCell ⟨w.heap.size,0,none⟩ (.int .i64 (xt:Int))).setCell ⟨w.heap.size+1,0,none⟩ (.slice B r.length d)→blz wf (b,o) xt=((xt:Int),r)→KeepsFrom (w.heap.size+3) W V∧KV w.heap.size (w.heap.size+1+1) W V∧IV wf w.heap.size (w.heap.size+1) w (bdq wf ((pre ++ [(xt,Value.slice B r.length d)]).map Prod.fst)) V:=fun V hV hst=>by
   subst hV
   have hn:∀ g:Nat,g≠w.heap.size→g≠w.heap.size+1→((W.setCell ⟨w.heap.size,0,none⟩ (.int .i64 (xt:Int))).setCell ⟨w.heap.size+1,0,none⟩ (.slice B r.length d)).heap[g]? = W.heap[g]? := fun g h1 h2=>(Below.heap_setCell _ _ _ _ (by simpa using h2)).trans (Below.heap_setCell _ _ _ _ (by simpa using h1))
   have q2:(W.setCell ⟨w.heap.size,0,none⟩ (.int .i64 (xt:Int))).heap[w.heap.size+1]? = some (.cells #[.slice A o.length c] 27 (0,0)):=(Below.heap_setCell _ _ _ _ (by simp)).trans HG2.out
   refine⟨((KeepsOthers.setCell _ _ _).from _).trans ((KeepsOthers.setCell _ _ _).from _),⟨((Below.refl w.heap.size W).setCell (p:=⟨w.heap.size,0,none⟩) (Nat.le_refl _) _).setCell (p:=⟨w.heap.size+1,0,none⟩) (Nat.le_succ _) _,fun o2 h2 _=>(hn _ (by omega) (by omega)).trans h2⟩,?_⟩
   rw [HS.out,hst]
   refine⟨(HB.out.setCell (p:=⟨w.heap.size,0,none⟩) (Nat.le_refl _) _).setCell (p:=⟨w.heap.size+1,0,none⟩) (Nat.le_succ _) _,(Below.heap_setCell _ _ _ _ (by simp)).trans (anq HG1.out 0 _ rfl),B,d,anq q2 0 _ rfl,HDD.out,?_⟩
   exact aJk (aJk HD.out _ f1 (fun x hx=>by cases hx)) _ ((aak q2 0).trans rfl) (fun x hx=>by cases hx)
  have keep_:blz wf (b,o) xt=(b,o)→KeepsFrom (w.heap.size+3) W W∧KV w.heap.size (w.heap.size+1+1) W W∧IV wf w.heap.size (w.heap.size+1) w (bdq wf ((pre ++ [(xt,Value.slice B r.length d)]).map Prod.fst)) W:=fun hst=>by
   refine⟨⟨Nat.le_refl _,fun _ _ _ h _=>h⟩,⟨Below.refl _ _,fun _ h _=>h⟩,?_⟩
   rw [HS.out,hst]
   exact⟨HB.out,HG1.out,A,c,HG2.out,HCC.out,HC.out⟩
  have HS3:=Qz.k s3
  have HTK:=Qz.k take_
  have HKP:=Qz.k keep_
  clear take_ keep_
  by_cases hb4:b=4
  ·subst hb4
   have HS1:=Qz.k (show blz wf (4,o) xt=((xt:Int),r)from by rw [HST.out,if_pos rfl])
   gi_wp2
   (try rw [HS3.out])
   exact HTK.out _ rfl HS1.out
  ·have d1:(b == 4)=false:=by simp [hb4]
   have d2:decide (b=4)=false:=decide_eq_false hb4
   by_cases hlt:r.length<o.length
   ·have d3:decide ((r.length:Int)<(o.length:Int))=true:=decide_eq_true (by omega)
    have d4:decide (r.length<o.length)=true:=decide_eq_true hlt
    have HS1:=Qz.k (show blz wf (b,o) xt=((xt:Int),r)from by rw [HST.out,if_neg hb4,if_pos hlt])
    gi_wp2
    (try rw [HS3.out])
    exact HTK.out _ rfl HS1.out
   ·have d3:decide ((r.length:Int)<(o.length:Int))=false:=decide_eq_false (by omega)
    have d4:decide (r.length<o.length)=false:=decide_eq_false hlt
    have HS1:=Qz.k (show blz wf (b,o) xt=(b,o)from by rw [HST.out,if_neg hb4,if_neg hlt])
    gi_wp2
    (try rw [HS3.out])
    exact HKP.out HS1.out
 case done=>
  rintro D xs W hD hS ⟨hB,hg1,A,c,hg2,hc,hC⟩ hK
  rw [hS]at hg1 hg2 hc hC
  obtain⟨R,hRE⟩:∃ R,vencOf wf=R:=⟨_,rfl⟩
  have HRE:=Qz.k hRE
  have HV:=Qz.k (show [(bdq wf (okT wf 4)).1%256]++(bdq wf (okT wf 4)).2=R from hRE)
  clear hRE
  generalize bdq wf (okT wf 4)=s at *
  obtain⟨b,o⟩:=s
  dsimp only at hg1 hg2 hc hC hbd HV
  have f1:W.cell? ⟨w.heap.size,0,none⟩=some (.int .i64 b):=(aak hg1 0).trans rfl
  have f2:=abz (aaq (Below.refl W.heap.size W) (.cells #[.int .u8 (b%256)] 5)) (show W.cell? ⟨w.heap.size+1,0,none⟩=some (.slice A o.length c)from(aak hg2 0).trans rfl)
  have hkD:(W.alloc (.cells #[.int .u8 (b%256)] 5)).heap[D]? = some (.deferred (some [])):=(aaq (Below.refl W.heap.size W) (.cells #[.int .u8 (b%256)] 5)).block D (Array.getElem?_eq_some_iff.1 hK).1 |>.trans hK
  have HB:=Qz.k hB
  have HC:=Qz.k (Kd.acz hC (aaq (Below.refl W.heap.size W) (.cells #[.int .u8 (b%256)] 5)))
  have HBA:=Qz.k (aaz hB (aaq (Below.refl W.heap.size W) (.cells #[.int .u8 (b%256)] 5)))
  have HO:=Qz.k (show Kd.R (Kd.int .u8) 5 (W.alloc (.cells #[.int .u8 (b%256)] 5)) w.heap.size (fun _=>True) (.slice (some ⟨W.heap.size,0,none⟩) 1 1) [b%256]from⟨fun _ _=>trivial,[.int .u8 (b%256)],⟨rfl,.inr ⟨_,1,#[.int .u8 (b%256)],rfl,hB.size,akz W _,Nat.le_refl _,by decide,rfl,rfl⟩⟩,Reps.one (show Kd.M (Kd.int .u8) _ _ _ (b%256) [.int .u8 (b%256)]from rfl) (Reps.none _ _)⟩)
  have HBD:=Qz.k (show o.length≤524288 from by omega)
  have HKD:=Qz.k hkD
  have HKL:=Qz.k (Array.getElem?_eq_some_iff.1 hK).1
  clear k1 k2 k3 hS hB hg1 hg2 hc hC hK hkD
  gi_wp2_with (first
   |(refine a8k (w0:=w) w.heap.size rfl (.tmp 28) (.tmp 29) 27 5 1 rfl Tryz.underlying27 info5 (by decide) (.slice (some ⟨W.heap.size,0,none⟩) 1 1) [b%256] o _ _ _ rfl rfl HO.out HC.out HBA.out HBA.out.size (by have:=HBD.out;simp;omega) ?_;intro v30 w30 ho hb hg hat;rw [HV.out]at ho;obtain⟨A30,c30,e30⟩:=Kd.afz ho;subst e30;have HR:=Qz.k ho;have HBF:=Qz.k hb;have HG6:=Qz.k hg;clear ho hb hg hat))
  have hk2:w30.heap[D]? = some (.deferred (some [])):=(HG6.out.block D (Array.getElem?_eq_some_iff.1 HKD.out).1 (by simp only [Value.ownBlock];intro e;injection e with e;have:=HKL.out;omega)).trans HKD.out
  refine⟨by simp,.inl ⟨_,_,rfl,run_takeDeferred hk2,?_⟩⟩
  have hfin:=bpz (B:=0) w30 D _ (.deferred none) (Nat.zero_le _) hk2 rfl HR.out
  refine⟨_,results_tmp2 rfl _ _ _,.slice A30 R.length c30,rfl,?_,HBF.out.trans (bvk _ (by omega) hk2)⟩
  rw [HRE.out]
  exact hfin
 case stop=>
  rintro D c pre W hD hp h
  exact h.elim
end Go.Proofs.YthggdomocichdaaGreatDoor.P
