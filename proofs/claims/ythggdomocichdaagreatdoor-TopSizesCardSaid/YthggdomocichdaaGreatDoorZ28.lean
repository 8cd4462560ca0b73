/- Put together: Merk3, Merk4. -/
import Derived.Test.YthggdomocichdaaGreatDoorZ24
set_option maxRecDepth 100000
set_option linter.unusedVariables false
set_option linter.unusedSimpArgs false
namespace Go.Proofs.YthggdomocichdaaGreatDoor.P
open Go.RowKit Go.Proofs.YthggdomocichdaaGreatDoor.Kit Go.Proofs.YthggdomocichdaaGreatDoor.Var Go.Proofs.YthggdomocichdaaGreatDoorW.PrintWords Go.Proofs.YthggdomocichdaaGreatDoorW.PrintLast Go.Proofs.YthggdomocichdaaGreatDoorW.PrintMore
theorem info27 : (Tryz.prog.info? 27).map (fun i=>(i.zero,i.size,i.bytes))=some (some (.slice none 0 0),1,24):=by kernel_rfl
set_option maxHeartbeats 2000000 in
theorem merkle_join (w0 W:World)(gt:Nat)(v:Value)(a b:List Int)(hG:W.heap[gt]? = some (.cells #[v] 58 (0,0)))(hT:Kd.R (Kd.slice 5 (Kd.int .u8)) 27 W w0.heap.size (fun k=>k≠gt) v [a,b])(hB:Below w0.heap.size w0 W)(hg:w0.heap.size≤gt)(ha:a.length<1099511627776)(hb:b.length<1099511627776) :
  Calls Tryz.prog 91 #[.pointer (some ⟨gt,0,none⟩)] W fun e W'=>e=.returned (.tuple #[])∧∃ v',W'.heap[gt]? = some (.cells #[v'] 58 (0,0))∧Kd.R (Kd.slice 5 (Kd.int .u8)) 27 W' w0.heap.size (fun k=>k≠gt) v' [a8z a b]∧Below w0.heap.size w0 W':=by
 obtain⟨ad,cp,ev⟩:=Kd.a0k hT (by simp)
 subst ev
 obtain⟨gs,hgs⟩:=Kd.R_head hT
 subst hgs
 obtain⟨ad0,Aa,ca,ea,hxa,hla,hia⟩:=bVk (Kd.ack hT).2.2 (0:Int) (by decide) (show(0:Int)<2 by decide)
 injection ea with ea
 subst ea
 obtain⟨ad1,Ab,cb,eb,hxb,hlb,hib⟩:=bVk (Kd.ack hT).2.2 (1:Int) (by decide) (show(1:Int)<2 by decide)
 injection eb with eb
 subst eb
 rw [show aDq [a,b] 0=a from rfl]at hxa hla hia
 rw [show aDq [a,b] 1=b from rfl]at hxb hlb hib
 have hw0:wrap64 0=0:=agq (by decide) (by decide)
 have hw1:wrap64 1=1:=agq (by decide) (by decide)
 have hct:W.cell? ⟨gt,0,none⟩=some (.slice (some ⟨gs,0,none⟩) 2 cp):=(aak hG 0).trans rfl
 have hca:W.cell? ⟨gs,0,none⟩=some (.slice Aa a.length ca):=hxa
 have hcb:W.cell? ⟨gs,1,none⟩=some (.slice Ab b.length cb):=hxb
 have HND:=Qz.k (fun(w1:World) (h:Below W.heap.size W w1)=>merkle_Node.calls Aa ca a Ab cb b w1 (Kd.acz hia h) hla ha (Kd.acz hib h) hlb hb)
 have HT:=Qz.k hT
 have HG:=Qz.k hG
 have HB:=Qz.k hB
 have HGG:=Qz.k hg
 have HNN:=Qz.k (bxk a b)
 generalize a8z a b=R at *
 clear hT hG hB hg ha hb hxa hla hia hxb hlb hib
 go_enter Tryz.func91,Tryz.ntmps91
 go_upto_region 1 with(fail)
 refine axq (n:=12) (S:=fun w'=>w'.cell? ⟨gt,0,none⟩=some (.slice (some ⟨gs,0,none⟩) 2 cp)∧w'.cell? ⟨gs,0,none⟩=some (.slice Aa a.length ca)∧w'.cell? ⟨gs,1,none⟩=some (.slice Ab b.length cb)) (ds:=[]) (bl 12 0) (by kernel_rfl) rfl rfl ⟨hct,hca,hcb⟩ (fun hHeld=>?_)
 refine pu_ 1 6 ?_ ?_ (bl 12 2) rfl rfl (by kernel_rfl) ?_ ?_ ?_
 rotate_left 2
 ·intro w';go_simp;with_reducible rfl
 ·simp only [Act.put,putA,putZ,putS,abq,abk];rfl
 refine pu_ 2 7 ?_ ?_ (bl 12 6) rfl rfl (by kernel_rfl) ?_ ?_ ?_
 rotate_left 2
 ·intro w';go_simp;with_reducible rfl
 ·simp only [Act.put,putA,putZ,putS,abq,abk];rfl
 refine pu_ 6 11 ?_ ?_ (bl 12 70) rfl rfl (by kernel_rfl) ?_ ?_ ?_
 rotate_left 2
 ·intro w';go_simp;with_reducible rfl
 ·simp only [Act.put,putA,putZ,putS,abq,abk];rfl
 refine pu_ 7 12 ?_ ?_ (bl 12 198) rfl rfl (by kernel_rfl) ?_ ?_ ?_
 rotate_left 2
 ·intro w';go_simp;with_reducible rfl
 ·simp only [Act.put,putA,putZ,putS,abq,abk];rfl
 refine tk_ 0 5 ?_ ?_ (bl 12 199) rfl rfl (by kernel_rfl) hHeld ?_ ?_ ?_
 rotate_left 2
 ·rintro w' ⟨s0,s1,s2⟩;go_simp;with_reducible rfl
 ·simp only [Act.put,putA,putZ,putS,abq,abk];rfl
 refine pu_ 3 8 ?_ ?_ (bl 12 207) rfl rfl (by kernel_rfl) ?_ ?_ ?_
 rotate_left 2
 ·intro w';go_simp;with_reducible rfl
 ·simp only [Act.put,putA,putZ,putS,abq,abk];rfl
 refine tk_ 4 9 ?_ ?_ (bl 12 223) rfl rfl (by kernel_rfl) hHeld ?_ ?_ ?_
 rotate_left 2
 ·rintro w' ⟨s0,s1,s2⟩;go_simp;with_reducible rfl
 ·simp only [Act.put,putA,putZ,putS,abq,abk];rfl
 refine tk_ 5 10 ?_ ?_ (bl 12 255) rfl rfl (by kernel_rfl) hHeld ?_ ?_ ?_
 rotate_left 2
 ·rintro w' ⟨s0,s1,s2⟩;go_simp;with_reducible rfl
 ·simp only [Act.put,putA,putZ,putS,abq,abk];rfl
 refine pu_ 8 13 ?_ ?_ (bl 12 511) rfl rfl (by kernel_rfl) ?_ ?_ ?_
 rotate_left 2
 ·intro w';go_simp;with_reducible rfl
 ·simp only [Act.put,putA,putZ,putS,abq,abk];rfl
 refine tk_ 9 14 ?_ ?_ (bl 12 1023) rfl rfl (by kernel_rfl) hHeld ?_ ?_ ?_
 rotate_left 2
 ·rintro w' ⟨s0,s1,s2⟩;go_simp;with_reducible rfl
 ·simp only [Act.put,putA,putZ,putS,abq,abk];rfl
 refine one_ (i:=10) (N:=some 15) (bl 12 2047) rfl rfl (by kernel_rfl) (by decide) (fun K hK=>?_)
 refine aFq Tryz.func92 (by kernel_rfl) rfl #[.slice Aa a.length ca,.slice Ab b.length cb] (by rfl) rfl rfl (by simp only [List.map_toArray,List.map_cons,List.map_nil];first|done|rfl) ?_
 with_reducible refine(HND.out _ (aez (Below.refl _ _))).mono ?_
 rintro e w3 ⟨v3,rfl,ho,hb⟩
 refine⟨_,rfl,?_⟩
 have HT3:=Qz.k (Kd.ahz (Kd.amz HT.out) hb)
 have HG3:=Qz.k (agz (show W.drew.heap[gt]? = _ from HG.out) hb)
 have HB3:=Qz.k (aaz (aez HB.out) hb)
 have HN3:=Qz.k (Kd.R_mono (Kd.axz ho) (ok':=fun k=>k≠gt∧some k≠(Value.slice (some ⟨gs,0,none⟩) 2 cp).ownBlock) (fun k hk=>⟨by have h1:=hk.2.1;have h2:=aQk HG.out;exact fun e=>by subst e;exact absurd h2 (Nat.not_lt.2 h1),fun e=>absurd (Kd.R_lt HT.out k e.symm) (Nat.not_lt.2 hk.2.1)⟩))
 have HNL:=Qz.k (Kd.aiq HN3.out (HB.out.size))
 clear ho
 refine hK.out _ _ ⟨abz hb hHeld.1,abz hb hHeld.2.1,abz hb hHeld.2.2⟩ (fun hHeld=>?_)
 clear hK K
 refine aHz (a':=?_) ?_ ?_
 rotate_left
 ·show Act.put _ (some 15) _=_
  simp only [Act.put,putA,putZ,putS,abq,abk]
  rfl
 refine pu_ 11 2 ?_ ?_ (bl 12 4095) rfl rfl (by kernel_rfl) ?_ ?_ ?_
 rotate_left 2
 ·intro w';go_simp;with_reducible rfl
 ·simp only [Act.put,putA,putZ,putS,abq,abk];rfl
 refine aPz (by kernel_rfl) ?_
 have HTN:=Qz.k (show gt≠gs from fun e=>HT.out.1 gs rfl e.symm)
 obtain⟨A3,c3,e3⟩:=Kd.afz HNL.out
 subst e3
 have HGZ:=Qz.k (aak HG3.out 0)
 have HGF:=Qz.k (afk HG3.out 0)
 have hct3:w3.cell? ⟨gt,0,none⟩=some (.slice (some ⟨gs,0,none⟩) 2 cp):=HGZ.out.trans rfl
 have hcf3:=HGF.out
 clear hct hca hcb
 go_wp2_with (first
  |((with_reducible refine agk (b := .append) (xs:=#[.tmp 19,.tmp 21]) rfl ?_);at_builtin;go_loud (refine Kd.aVq (Kd.slice 5 (Kd.int .u8)) (w0:=w0) w0.heap.size rfl (.tmp 19) (.tmp 21) 58 27 (.slice none 0 0) 24 rfl Tryz.underlying58 info27 rfl (by decide) (by decide) (.slice (some ⟨gs,0,none⟩) 0 cp) [] R [.slice A3 R.length c3] (fun k=>k≠gt) (fun k=>k≠gt∧some k≠(Value.slice (some ⟨gs,0,none⟩) 2 cp).ownBlock) rfl rfl ⟨_,rfl,HNL.out⟩ (fun k hk=>hk) (fun k hk=>by have h2:=aQk HG3.out;omega) (Kd.R_take (m:=0) HT3.out (Nat.zero_le _)) HB3.out HB3.out.size (by decide) ?_;intro v4 w4 ho hb hg hat;rw [List.nil_append]at ho;obtain⟨Az,cz,ez⟩:=Kd.afz ho;subst ez;have HO4:=Qz.k ho;have HB4:=Qz.k hb;have HG4:=Qz.k (ark HG3.out hg (by simp [Value.ownBlock];exact fun e=>HTN.out e));have hc4:w4.cell? ⟨gt,0,none⟩=some (.slice (some ⟨gs,0,none⟩) 2 cp):=(aak HG4.out 0).trans rfl;have hf4:=afk HG4.out 0;clear ho hb hg hat)))
 go_end0
 refine⟨rfl,_,anq HG4.out 0 _ rfl,Kd.aQq HO4.out (fun _ h=>h) _,adq HB4.out HGG.out⟩
def topsAt (a b:List Int):Nat→List (List Int)
 | 0=>[]
 | 1=>[a]
 | _=>[a8z a b]
def tzAt : Nat→Nat
 | 0=>0
 | _=>1
theorem tz_calls (j:Nat)(hj:j<2)(w:World)(hT:Tab w):Calls Tryz.prog 93 #[.int .u64 ((j+1:Nat):Int)] w fun e w'=>e=.returned (.int .i64 (tzAt j:Int))∧w'=w:=by
 have H:=Qz.k (aPk (j+1) (by omega) w hT)
 have HE:=Qz.k (show Lib.ctz 64 (j+1)=tzAt j from by
  obtain rfl|rfl:j=0∨j=1:=by omega
  ·decide
  ·decide)
 clear hT
 generalize ((j+1:Nat):Int)=x at *
 go_enter Tryz.func93,Tryz.ntmps93
 go_wp2_with (fail)
 refine H.out.mono ?_
 rintro e w' ⟨rfl,rfl⟩
 rw [HE.out]
 go_wp2
 go_ret
 exact⟨rfl,rfl⟩
set_option maxHeartbeats 4000000 in
theorem merkle_Root2.calls (A0:Option Addr)(c0:Nat)(a b:List Int)(w:World)(hr0:Kd.C (Kd.slice 5 (Kd.int .u8)) w A0 2 [a,b])(hc0:2≤c0)(ha:a.length<1099511627776)(hb:b.length<1099511627776)(hT:Tab w) :
  Calls Tryz.prog 49 #[.slice A0 2 c0] w fun e w'=>∃ (A:Option Addr) (c:Nat),e=.returned (.slice A 32 c)∧32≤c∧Kd.C (Kd.int .u8) w' A 32 (a8z a b)∧Below w.heap.size w w':=by
 have HR:=Qz.k hr0
 have HTB:=Qz.k hT
 have HJN:=Qz.k (fun(W:World) (gt:Nat) (v:Value) h1 h2 h3 h4=>merkle_join w W gt v a b h1 h2 h3 h4 ha hb)
 have HLA:=Qz.k ha
 have HLB:=Qz.k hb
 have HNN:=Qz.k (bxk a b)
 clear hr0 hc0 ha hb hT
 go_enter Tryz.func49,Tryz.ntmps49
 go_upto_region 5 with(first
  |((with_reducible refine ahk (N:=3) rfl ?_);refine aik ?hg (N:=3) ?hd (cs:=#[.slice none 0 0]) (t:=58) ?hr ?_;(case hd=>rfl);(case hg=>rfl);(case hr=>first|(go_simp;done)|(go_simp;rfl));intro gt hgq w4 hbox hb;have HB4:=Qz.k hb;have HG4:=Qz.k hbox;have GET:=Qz.k (show w.heap.size≤gt from by rw [hgq];exact Nat.le_refl _);clear hbox hb hgq))
 go_wp2
 go_loopg [5,6,14,28] 2 (fun kq v5 v6 v14 v28 W'=>∃ (j:Nat) (v:Value),v14=.int .i64 (j:Int)∧kq=2-j∧j≤2∧Qz (W'.heap[gt]? = some (.cells #[v] 58 (0,0)))∧Qz (Kd.R (Kd.slice 5 (Kd.int .u8)) 27 W' w.heap.size (fun k=>k≠gt) v (topsAt a b j))∧Qz (Below w.heap.size w W'))
 case atStart=>exact⟨0,_,rfl,rfl,by omega,HG4,⟨Kd.ayz _ _ _ _ _⟩,HB4⟩
 case round=>
  clear HG4 HB4
  obtain⟨j,v,rfl,rfl,hj,HG,HT,HB⟩:=hrel
  by_cases hlt:j<2
  ·have c5:decide ((j:Int)<2)=true:=decide_eq_true (by omega)
   have c6:decide (j<2)=true:=decide_eq_true hlt
   have n0:(j:Int)<2:=by omega
   have HW:=Qz.k (show wrap64 ((j:Int)+1)=((j+1:Nat):Int)from by rw [agq (by omega) (by omega)];omega)
   obtain⟨ad,Aj,cj,e5,hxj,hlj,hij⟩:=bVk HR.out (j:Int) (by omega) (by omega)
   subst e5
   rw [Int.toNat_natCast]at hxj
   replace hxj:=(HB.out.cell (World.block_lt_of_cell? w _ hxj)).trans hxj
   have HBJ:=Qz.k (show(aDq [a,b] (j:Int)).length<1099511627776 from by
    obtain rfl|rfl:j=0∨j=1:=by omega
    ·exact HLA.out
    ·exact HLB.out)
   have HSU:=Qz.k (show topsAt a b j ++ [aDq [a,b] (j:Int)]=(if j=0 then [a]else [a,b])from by
    obtain rfl|rfl:j=0∨j=1:=by omega
    ·rfl
    ·rfl)
   have HCL:=Qz.k (fun(w1:World) (h:Below w.heap.size w w1)=>slices_Clone_byte_byte.calls Aj cj (aDq [a,b] (j:Int)) (aDq [a,b] (j:Int)) w1 (Kd.acz hij h) hlj (clone_f _ (by have:=HBJ.out;omega)))
   have HTL:=Qz.k (show(topsAt a b j).length≤1 from by
    obtain rfl|rfl:j=0∨j=1:=by omega
    ·exact Nat.zero_le _
    ·exact Nat.le_refl _)
   generalize aDq [a,b] (j:Int)=b1 at *
   generalize topsAt a b j=TL at *
   have hct:wr.cell? ⟨gt,0,none⟩=some v:=(aak HG.out 0).trans rfl
   clear hlj hij
   go_upto_region 8 with(fail)
   refine axq (n:=6) (S:=fun w'=>w'.cell? ⟨gt,0,none⟩=some v) (ds:=[5]) (bl 6 0) (by kernel_rfl) rfl rfl (hct) (fun hHeld=>?_)
   refine pu_ 1 20 ?_ ?_ (bl 6 2) rfl rfl (by kernel_rfl) ?_ ?_ ?_
   rotate_left 2
   ·intro w';go_simp;with_reducible rfl
   ·simp only [Act.put,putA,putZ,putS,abq,abk];rfl
   refine tk_ 0 19 ?_ ?_ (bl 6 3) rfl rfl (by kernel_rfl) hHeld ?_ ?_ ?_
   rotate_left 2
   ·intro w' s0;go_simp;with_reducible rfl
   ·simp only [Act.put,putA,putZ,putS,abq,abk];rfl
   refine one_ (i:=2) (N:=some 21) (bl 6 7) rfl rfl (by kernel_rfl) (by decide) (fun K hK=>?_)
   refine aFq Tryz.func22 (by kernel_rfl) rfl #[.slice Aj b1.length cj] (by rfl) rfl rfl (by simp only [List.map_toArray,List.map_cons,List.map_nil];first|done|rfl) ?_
   with_reducible refine(HCL.out _ (aez HB.out)).mono ?_
   rintro e w3 ⟨v3,rfl,ho,hb⟩
   refine⟨_,rfl,?_⟩
   obtain⟨A3,c3,e3⟩:=Kd.afz ho
   subst e3
   have HT3:=Qz.k (Kd.ahz (Kd.amz HT.out) hb)
   have HG3:=Qz.k (agz (show wr.drew.heap[gt]? = _ from HG.out) hb)
   have HB3:=Qz.k (aaz (aez HB.out) hb)
   have HN3:=Qz.k (Kd.R_mono (Kd.axz ho) (ok':=fun k=>k≠gt∧some k≠v.ownBlock) (fun k hk=>⟨by have h1:=hk.2.1;have h2:=aQk HG.out;exact fun e=>by subst e;exact absurd h2 (Nat.not_lt.2 h1),fun e=>absurd (Kd.R_lt HT.out k e.symm) (Nat.not_lt.2 hk.2.1)⟩))
   have HNL:=Qz.k (Kd.aiq HN3.out HB.out.size)
   have hct3:=abz hb hHeld
   clear ho
   refine hK.out _ _ (hct3) (fun hHeld=>?_)
   clear hK K
   refine aHz (a':=?_) ?_ ?_
   rotate_left
   ·show Act.put _ (some 21) _=_
    simp only [Act.put,putA,putZ,putS,abq,abk]
    rfl
   refine one_ (i:=3) (N:=some 22) (bl 6 15) rfl rfl (by kernel_rfl) (by decide) (fun K hK=>?_)
   refine aAq (w1:=w3.alloc (.cells #[.slice A3 b1.length c3] 27)) (v := .slice (some ⟨w3.heap.size,0,none⟩) 1 1) (by rfl) rfl ?_ ?_
   ·go_simp
   refine hK.out _ _ (abz (aaq (Below.refl _ _) _) hct3) (fun hHeld=>?_)
   clear hK K
   refine aHz (a':=?_) ?_ ?_
   rotate_left
   ·show Act.put _ (some 22) _=_
    simp only [Act.put,putA,putZ,putS,abq,abk]
    rfl
   refine one_ (i:=4) (N:=some 23) (bl 6 31) rfl rfl (by kernel_rfl) (by decide) (fun K hK=>?_)
   refine Kd.R_append_step (Kd.slice 5 (Kd.int .u8)) (w0:=w) w.heap.size (by rfl) (.tmp 19) (.tmp 22) 58 27 (.slice none 0 0) 24 rfl Tryz.underlying58 info27 rfl (by decide) (by decide) v TL b1 [.slice A3 b1.length c3] (fun k=>k≠gt) (fun k=>k≠gt∧some k≠v.ownBlock) (by rfl) (by rfl) ⟨_,rfl,HNL.out⟩ (fun k hk=>hk) (fun k hk=>by have h2:=aQk HG3.out;omega) HT3.out HB3.out HB3.out.size (by have:=HTL.out;omega) ?_
   intro v4 w4 ho hb4 hg hat
   have HO4:=Qz.k ho
   have HB4:=Qz.k hb4
   have HG4:=Qz.k (ark HG3.out hg (Kd.R_ne HT3.out HG3.out (by decide)))
   refine hK.out _ _ ((aak HG4.out 0).trans rfl) (fun hHeld=>?_)
   clear hK K
   refine aHz (a':=?_) ?_ ?_
   rotate_left
   ·show Act.put _ (some 23) _=_
    simp only [Act.put,putA,putZ,putS,abq,abk]
    rfl
   refine bdz (i:=5) (N:=none) (bl 6 63) rfl rfl (by kernel_rfl) (by decide) (fun K hK=>?_)
   obtain⟨A4,c4,e4⟩:=Kd.afz HO4.out
   subst e4
   have hc4:w4.cell? ⟨gt,0,none⟩=some v:=(aak HG4.out 0).trans rfl
   have hf4:=afk HG4.out 0
   refine bbk (w1:=w4.setCell ⟨gt,0,none⟩ (.slice A4 (TL ++ [b1]).length c4)) (by rfl) rfl ?_ ?_
   ·go_simp
   refine hK.out _ _ ?_
   clear hK K
   refine aPz (by kernel_rfl) ?_
   have HG5:=Qz.k (anq HG4.out 0 (.slice A4 (TL ++ [b1]).length c4) rfl)
   have HT5:=Qz.k (Kd.aQq (p:=⟨gt,0,none⟩) HO4.out (fun _ h=>h) (.slice A4 (TL ++ [b1]).length c4))
   have HB5:=Qz.k (adq (j:=0) (v := .slice A4 (TL ++ [b1]).length c4) HB4.out GET.out)
   clear hc4 hf4 hct hct3 HG HT HB HT3 HG3 HB3 HN3 HNL HO4 HB4 HG4
   generalize w4.setCell ⟨gt,0,none⟩ (.slice A4 (TL ++ [b1]).length c4)=w5 at *
   generalize Value.slice A4 (TL ++ [b1]).length c4=v5 at *
   rw [HSU.out]at HT5
   have HTC:=Qz.k (tz_calls j hlt w5 (HTB.out.below HB5.out))
   have n2:IntKind.u64.wrap ((j:Int)+1)=((j+1:Nat):Int):=by rw [aOq _ (by omega) (by omega)];rfl
   go_wp2_with (fail)
   refine(show Calls Tryz.prog 93 #[.int .u64 ((j:Int)+1)] w5 _ from HTC.out).mono ?_
   rintro e w6 ⟨rfl,rfl⟩
   clear n2
   obtain rfl|rfl:j=0∨j=1:=by omega
   ·rw [if_pos rfl]at HT5
    rw [show((tzAt 0:Nat):Int)=0 from rfl]
    go_wp2
    refine wp_loop_rounds 1 ?_
    rw [rounds_succ]
    go_wp2
    go_roundg (2-(0+1))
    case measure=>exact(by omega)
    case rel=>
     (try rw [HW.out])
     exact⟨0+1,v5,rfl,rfl,by omega,HG5,HT5,HB5⟩
   ·rw [if_neg (by decide)]at HT5
    rw [show((tzAt 1:Nat):Int)=1 from rfl]
    go_wp2
    refine wp_loop_rounds 2 ?_
    rw [rounds_succ]
    go_wp2_with (fail)
    refine(HJN.out _ gt v5 HG5.out HT5.out HB5.out GET.out).mono ?_
    rintro e w7 ⟨rfl,v7,hg,ht,hb⟩
    have HG7:=Qz.k hg
    have HT7:=Qz.k ht
    have HB7:=Qz.k hb
    clear hg ht hb HG5 HT5 HB5
    go_wp2
    rw [rounds_succ]
    go_wp2
    go_roundg (2-(1+1))
    case measure=>exact(by omega)
    case rel=>
     (try rw [HW.out])
     exact⟨1+1,v7,rfl,rfl,by omega,HG7,HT7,HB7⟩
  ·have c5:decide ((j:Int)<2)=false:=decide_eq_false (by omega)
   have c6:decide (j<2)=false:=decide_eq_false hlt
   obtain rfl:j=2:=by omega
   obtain⟨ad,cp,ev⟩:=Kd.a0k HT.out (show 0 < [a8z a b].length from by simp)
   subst ev
   obtain⟨ad0,Aa,ca,ea,hxa,hla,hia⟩:=bVk (Kd.ack HT.out).2.2 (0:Int) (by decide) (show(0:Int)<1 by decide)
   injection ea with ea
   subst ea
   rw [show aDq (topsAt a b 2) 0=a8z a b from rfl]at hxa hla hia
   have hct:wr.cell? ⟨gt,0,none⟩=some (.slice (some ad) 1 cp):=(aak HG.out 0).trans rfl
   have hca:wr.cell? ad=some (.slice Aa (a8z a b).length ca):=by simpa [Addr.add_zero']using hxa
   have HIA:=Qz.k hia
   have HLA2:=Qz.k hla
   clear hxa hia hla
   rw [HNN.out]at hca HIA HLA2
   go_wp2
   refine wp_loop_rounds 1 ?_
   rw [rounds_succ]
   go_wp2
   go_ret
   exact⟨_,_,rfl,HLA2.out,HIA.out,HB.out⟩
set_option maxHeartbeats 1000000 in
theorem merkle_Root0.calls (A0:Option Addr)(c0:Nat)(w:World) :
  Calls Tryz.prog 49 #[.slice A0 0 c0] w fun e w'=>∃ (A:Option Addr) (c:Nat),e=.returned (.slice A 32 c)∧32≤c∧Kd.C (Kd.int .u8) w' A 32 (bCk [])∧Below w.heap.size w w':=by
 have HS:=Qz.k (show Calls Tryz.prog 90 #[.slice none 0 0] w fun e w'=>∃ v0_:Value,e=.returned v0_∧Kd.R (Kd.int .u8) 5 w' w.heap.size (fun _=>True) v0_ (bCk [])∧Below w.heap.size w w' from sha_Sum_all.calls none 0 [] w (Kd.a7q _ _) (Nat.le_refl 0) (by decide))
 have HL:=Qz.k (bqz [])
 generalize bCk []=T at *
 go_enter Tryz.func49,Tryz.ntmps49
 go_wp2_with (fail)
 refine HS.out.mono ?_
 rintro e w3 ⟨v3,rfl,ho,hb⟩
 obtain⟨A3,c3,e3⟩:=Kd.afz ho
 subst e3
 have HR:=Qz.k (Kd.ack ho).2
 have HB:=Qz.k hb
 rw [HL.out]at HR
 rw [HL.out]
 clear ho hb HS
 go_wp2
 go_ret
 exact⟨_,_,rfl,HR.out.1,HR.out.2,HB.out⟩
set_option maxHeartbeats 2000000 in
theorem archive_rootOf (T:List Int)(A0:Option Addr)(c0:Nat)(ls:List (List Int))(w:World)(hr0:Kd.C (Kd.slice 5 (Kd.int .u8)) w A0 ls.length ls)(hl:ls.length<1024)(hb:∀ b∈ls,b.length<1099511627776)
  (hroot:∀ (w1:World) (A:Option Addr) (c:Nat),Below w.heap.size w w1→Kd.C (Kd.slice 5 (Kd.int .u8)) w1 A ls.length (ls.map aVz)→ls.length≤c→Calls Tryz.prog 49 #[.slice A ls.length c] w1 fun e w'=>∃ (A':Option Addr) (c':Nat),e=.returned (.slice A' 32 c')∧32≤c'∧Kd.C (Kd.int .u8) w' A' 32 T∧Below w1.heap.size w1 w') :
  Calls Tryz.prog 23 #[.slice A0 ls.length c0] w fun e w'=>∃ (A':Option Addr) (c':Nat),e=.returned (.slice A' 32 c')∧32≤c'∧Kd.C (Kd.int .u8) w' A' 32 T∧Below w.heap.size w w':=by
 have HR:=Qz.k hr0
 have HLS:=Qz.k hl
 have HBJ:=Qz.k (fun(j:Nat) (hj:j<ls.length)=>hb _ (bDk hj))
 have HRT:=Qz.k hroot
 have HTK:=Qz.k (fun(j:Nat) (hj:j<ls.length)=>(show(ls.take j).map aVz ++ [aVz (aDq ls (j:Int))]=(ls.take (j+1)).map aVz from by
  have e:aDq ls (j:Int)=ls[j]:=by simp [aDq,List.getD_eq_getElem?_getD,List.getElem?_eq_getElem hj]
  rw [e,List.take_add_one,List.getElem?_eq_getElem hj,List.map_append]
  rfl))
 clear hr0 hl hb hroot
 go_enter Tryz.func23,Tryz.ntmps23
 go_wp2
 go_loopg [3,5,8] ls.length (fun kq v3 v5 v8 W'=>∃ j:Nat,v8=.int .i64 (j:Int)∧kq=ls.length-j∧j≤ls.length∧Qz (Kd.R (Kd.slice 5 (Kd.int .u8)) 27 W' w.heap.size (fun _=>True) v3 ((ls.take j).map aVz))∧Qz (Below w.heap.size w W'))
 case atStart=>exact⟨0,rfl,rfl,by omega,⟨Kd.ayz _ _ _ _ _⟩,⟨Below.refl _ _⟩⟩
 case round=>
  obtain⟨j,rfl,rfl,hj,HT,HB⟩:=hrel
  by_cases hlt:j<ls.length
  ·have c5:decide ((j:Int)<(ls.length:Int))=true:=decide_eq_true (by omega)
   have c6:decide (j<ls.length)=true:=decide_eq_true hlt
   have n0:(j:Int)<1024:=by have:=HLS.out;omega
   have HW:=Qz.k (show wrap64 ((j:Int)+1)=((j+1:Nat):Int)from by rw [agq (by omega) (by omega)];omega)
   obtain⟨ad,Aj,cj,e5,hxj,hlj,hij⟩:=bVk HR.out (j:Int) (by omega) (by omega)
   subst e5
   rw [Int.toNat_natCast]at hxj
   replace hxj:=(HB.out.cell (World.block_lt_of_cell? w _ hxj)).trans hxj
   have HSU:=Qz.k (HTK.out j hlt)
   have HLF:=Qz.k (merkle_Leaf.calls Aj cj (aDq ls (j:Int)) wr (Kd.acz hij HB.out) hlj (HBJ.out j hlt))
   have HTL:=Qz.k (show((ls.take j).map aVz).length≤1024 from by rw [List.length_map,List.length_take];omega)
   generalize aDq ls (j:Int)=b at *
   generalize aVz b=LB at *
   generalize (ls.take j).map aVz=TL at *
   clear hlj hij
   go_wp2_with (fail)
   refine HLF.out.mono ?_
   rintro e w3 ⟨v3,rfl,ho,hb⟩
   obtain⟨A3,c3,e3⟩:=Kd.afz ho
   subst e3
   have HT3:=Qz.k (Kd.ahz HT.out hb)
   have HN3:=Qz.k (Kd.aiq (Kd.R_mono (Kd.axz ho) (ok':=fun k=>True∧some k≠u3.ownBlock) (fun k hk=>⟨trivial,fun e=>absurd (Kd.R_lt HT.out k e.symm) (Nat.not_lt.2 hk.2.1)⟩)) HB.out.size)
   have HB3:=Qz.k (aaz HB.out hb)
   clear ho hb HLF
   go_wp2_with (first
    |((with_reducible refine agk (b := .append) (xs:=#[.tmp 12,.tmp 15]) rfl ?_);at_builtin;refine Kd.aVq (Kd.slice 5 (Kd.int .u8)) (w0:=w) w.heap.size rfl (.tmp 12) (.tmp 15) 58 27 (.slice none 0 0) 24 rfl Tryz.underlying58 info27 rfl (by decide) (by decide) u3 TL LB [.slice A3 LB.length c3] (fun _=>True) (fun k=>True∧some k≠u3.ownBlock) rfl rfl ⟨_,rfl,HN3.out⟩ (fun k hk=>hk) (fun _ _=>trivial) HT3.out HB3.out HB3.out.size (by have:=HTL.out;omega) ?_;intro v4 w4 ho hb hg hat;rw [HSU.out]at ho;have HO4:=Qz.k ho;have HB4:=Qz.k hb;clear ho hb hg hat))
   go_roundg (ls.length-(j+1))
   case measure=>exact(by omega)
   case rel=>
    (try rw [HW.out])
    exact⟨j+1,rfl,rfl,hlt,HO4,HB4⟩
  ·have c5:decide ((j:Int)<(ls.length:Int))=false:=decide_eq_false (by omega)
   have c6:decide (j<ls.length)=false:=decide_eq_false hlt
   obtain rfl:j=ls.length:=by omega
   rw [List.take_length]at HT
   obtain⟨At,ct,et⟩:=Kd.afz HT.out
   subst et
   have HTR:=Qz.k (Kd.ack HT.out).2
   rw [List.length_map]at HTR
   rw [List.length_map]
   go_wp2_with (fail)
   refine(HRT.out _ At ct HB.out HTR.out.2 HTR.out.1).mono ?_
   rintro e w5 ⟨A5,c5',rfl,hc,hr,hb⟩
   have HR5:=Qz.k hr
   have HC5:=Qz.k hc
   have HB5:=Qz.k (aaz HB.out hb)
   clear hc hr hb
   go_wp2
   go_ret
   exact⟨_,_,rfl,HC5.out,HR5.out,HB5.out⟩
end Go.Proofs.YthggdomocichdaaGreatDoor.P
