/- Put together: Poly1, Poly2, Poly3, Poly4, Poly5, Cha1, Cha2, Cha3, Cha4, Aead1, Keys1, Keys2, Sli1, Arch1. -/
import Derived.Test.YthggdomocichdaaGreatDoorZ25
import Derived.Laws.IdiomStrings
set_option maxRecDepth 100000
set_option linter.unusedVariables false
set_option linter.unusedSimpArgs false
namespace Go.Proofs.YthggdomocichdaaGreatDoor.P
open Go.RowKit Go.Proofs.YthggdomocichdaaGreatDoor.Kit Go.Proofs.YthggdomocichdaaGreatDoorW.PrintWords Go.Proofs.YthggdomocichdaaGreatDoorW.PrintLast Go.Proofs.YthggdomocichdaaGreatDoorW.PrintMore
def cTo (n:List Int):Nat→List Int×Int
 | 0=>(n,0)
 |k+1=>((cTo n k).1.set k (Go.bits .and .u64 (IntKind.u64.wrap (rd (cTo n k).1 (k:Int)+(cTo n k).2)) 67108863),IntKind.u64.wrap (rd (cTo n k).1 (k:Int)+(cTo n k).2)/67108864)
def carried (n:List Int):List Int:=(cTo n 5).1.set 0 (IntKind.u64.wrap (rd (cTo n 5).1 0+IntKind.u64.wrap (5*(cTo n 5).2)))
theorem cTo_len (n:List Int):∀ k,(cTo n k).1.length=n.length
 | 0=>rfl
 |k+1=>by rw [cTo,List.length_set,cTo_len n k]
theorem aMk (n:List Int):(carried n).length=n.length:=by rw [carried,List.length_set,cTo_len]
set_option maxHeartbeats 2000000 in
theorem poly_num_carried.calls (n:List Int)(hn:n.length=5)(w:World) :
  Calls Tryz.prog 260 #[.agg (arrV .u64 n)] w fun e w'=>e=.returned (.agg (arrV .u64 (carried n)))∧Below w.heap.size w w':=by
 have HN:=Qz.k hn
 obtain⟨C,hC⟩:∃ C,carried n=C:=⟨_,rfl⟩
 have HCL:=Qz.k (show C.length=5 from by rw [←hC,aMk,hn])
 have HCE:=Qz.k hC
 rw [hC]
 clear hn hC
 have HI5:=Qz.k (show ∀ l:List Int,l.length=5→(Tryz.prog.info? 216).map (·.size)=some l.length from fun l hl=>by rw [hl];kernel_rfl)
 go_enter Tryz.func260,Tryz.ntmps260
 go_wp2_with (first
  |((with_reducible refine ahk (N:=1) rfl ?_);refine aik ?hg (N:=1) ?hd (cs:=arrV .u64 n) (t:=216) ?hr ?_;(case hd=>rfl);(case hg=>rfl);(case hr=>first|(go_simp;done)|(go_simp;rfl));intro g1 hg w4 hbox hb;have HB4:=Qz.k hb;have HA4:=Qz.k (show Arr w4 g1 216 .u64 n from hbox);have GE1:=Qz.k ((by rw [hg];exact Nat.le_refl _):w.heap.size≤g1);clear hbox hb hg)
  |((with_reducible refine ahk (N:=2) rfl ?_);refine aik ?hg (N:=2) ?hd (cs:=arrV .u64 (List.replicate 5 0)) (t:=216) ?hr ?_;(case hd=>rfl);(case hg=>rfl);(case hr=>first|(go_simp;done)|(go_simp;rfl));intro g2 hg w5 hbox hb;have HB5:=Qz.k (aaz HB4.out hb);have HZ5:=Qz.k (show Arr w5 g2 216 .u64 (List.replicate 5 0)from hbox);have HA5:=Qz.k (Arr.below HA4.out hb);have GE2:=Qz.k ((by rw [hg];exact HA4.out.lt):g1<g2);clear HA4 HB4 hbox hb hg))
 go_loopg [3,5] 5 (fun kq v3 v5 W'=>∃ (k:Nat) (o:Int),v3=.int .u64 o∧v5=.int .i64 (k:Int)∧kq=5-k∧k≤5∧Qz (o=(cTo n k).2)∧Qz (Arr W' g1 216 .u64 (cTo n k).1)∧Qz (Arr W' g2 216 .u64 (List.replicate 5 0))∧Qz (Below w.heap.size w W'))
 case atStart=>exact⟨0,0,rfl,rfl,rfl,by omega,⟨rfl⟩,HA5,HZ5,HB5⟩
 case round=>
  clear HA5 HZ5 HB5
  obtain⟨k,o,rfl,rfl,rfl,hk,HOE,HA,HZ,HB⟩:=hrel
  have HL:=Qz.k (show(cTo n k).1.length=5 from by rw [cTo_len];exact HN.out)
  by_cases hlt:k<5
  ·have c3:decide ((k:Int)<5)=true:=decide_eq_true (by omega)
   have c4:decide (k<5)=true:=decide_eq_true hlt
   have n0:(k:Int)<5:=by omega
   have HW:=Qz.k (show wrap64 ((k:Int)+1)=((k+1:Nat):Int)from by rw [agq (by omega) (by omega)];omega)
   have HNX:=Qz.k (show cTo n (k+1)=((cTo n k).1.set k (Go.bits .and .u64 (IntKind.u64.wrap (rd (cTo n k).1 (k:Int)+o)) 67108863),IntKind.u64.wrap (rd (cTo n k).1 (k:Int)+o)/67108864)from by rw [cTo,HOE.out])
   have hcx:wr.cell? ⟨g1,k,none⟩=some (.int .u64 (rd (cTo n k).1 (k:Int))):=HA.out.cell (by have:=HL.out;omega)
   have hfx:=HA.out.froz k
   generalize rd (cTo n k).1 (k:Int)=y at *
   go_wp2
   go_roundg (5-(k+1))
   case measure=>exact(by omega)
   case rel=>
    (try rw [HW.out])
    exact⟨k+1,_,rfl,rfl,rfl,hlt,⟨by rw [HNX.out]⟩,⟨by have h1:=(HA.out.put k (IntKind.u64.wrap (y+o))).put k (Go.bits .and .u64 (IntKind.u64.wrap (y+o)) 67108863);rw [List.set_set]at h1;rw [HNX.out];exact h1⟩,⟨(HZ.out.far (by show g2≠g1;have:=GE2.out;omega) _).far (by show g2≠g1;have:=GE2.out;omega) _⟩,⟨adq (adq HB.out GE1.out) GE1.out⟩⟩
  ·have c3:decide ((k:Int)<5)=false:=decide_eq_false (by omega)
   have c4:decide (k<5)=false:=decide_eq_false hlt
   obtain rfl:k=5:=by omega
   have hc0:wr.cell? ⟨g1,0,none⟩=some (.int .u64 (rd (cTo n 5).1 0)):=HA.out.cell (i:=0) (by have:=HL.out;omega)
   have hf0:=HA.out.froz 0
   have HCC:=Qz.k (show C=(cTo n 5).1.set 0 (IntKind.u64.wrap (rd (cTo n 5).1 0+IntKind.u64.wrap (5*o)))from by rw [←HCE.out,carried,HOE.out])
   generalize rd (cTo n 5).1 0=y at *
   go_upto_region 10 with(fail)
   have HA6:=Qz.k (show Arr (wr.setCell ⟨g1,0,none⟩ (.int .u64 (IntKind.u64.wrap (y+IntKind.u64.wrap (5*o))))) g1 216 .u64 C from by rw [HCC.out];exact HA.out.put 0 _)
   have HZ6:=Qz.k (show Arr (wr.setCell ⟨g1,0,none⟩ (.int .u64 (IntKind.u64.wrap (y+IntKind.u64.wrap (5*o))))) g2 216 .u64 (List.replicate 5 0)from HZ.out.far (by show g2≠g1;have:=GE2.out;omega) _)
   have HB6:=Qz.k (show Below w.heap.size w (wr.setCell ⟨g1,0,none⟩ (.int .u64 (IntKind.u64.wrap (y+IntKind.u64.wrap (5*o)))))from adq HB.out GE1.out)
   have HEQ:=Qz.k (show(List.replicate 5 (0:Int)).length=C.length from by rw [HCL.out];rfl)
   clear HA HZ HB hc0 hf0
   generalize wr.setCell ⟨g1,0,none⟩ (.int .u64 (IntKind.u64.wrap (y+IntKind.u64.wrap (5*o))))=wa at *
   go_wp2_with (first
    |(refine ayk 216 (.tmp 1) rfl rfl rfl HA6.out Tryz.underlying216 (HI5.out C HCL.out) ?_)
    |(refine arq (g:=g2) (l':=C) 216 (.tmp 2) (.tmp 30) rfl rfl rfl rfl rfl HZ6.out (HI5.out C HCL.out) HEQ.out ?_))
   have HF:=Qz.k (Arr.row HZ6.out C)
   refine bodyPost_ret (v := .agg (arrV .u64 C)) ?_ rfl ⟨rfl,?_⟩
   ·exact Arr.result rfl _ HF.out rfl Tryz.underlying216 (HI5.out C HCL.out)
   ·exact anz HB6.out (by have:=GE1.out;have:=GE2.out;omega)
def pTo (n m:List Int):Nat→List Int
 | 0=>n
 |k+1=>(pTo n m k).set k (IntKind.u64.wrap (rd (pTo n m k) (k:Int)+rd m (k:Int)))
def plus (n m:List Int):List Int:=carried (pTo n m 5)
theorem bMq (n m:List Int):∀ k,(pTo n m k).length=n.length
 | 0=>rfl
 |k+1=>by rw [pTo,List.length_set,bMq n m k]
theorem plus_len (n m:List Int):(plus n m).length=n.length:=by rw [plus,aMk,bMq]
set_option maxHeartbeats 2000000 in
theorem poly_num_plus.calls (n m:List Int)(hn:n.length=5)(hm:m.length=5)(w:World) :
  Calls Tryz.prog 207 #[.agg (arrV .u64 n),.agg (arrV .u64 m)] w fun e w'=>e=.returned (.agg (arrV .u64 (plus n m)))∧Below w.heap.size w w':=by
 have HN:=Qz.k hn
 have HM:=Qz.k hm
 have HCC:=Qz.k (fun w1=>poly_num_carried.calls (pTo n m 5) (by rw [bMq];exact hn) w1)
 obtain⟨C,hC⟩:∃ C,carried (pTo n m 5)=C:=⟨_,rfl⟩
 have HCL:=Qz.k (show C.length=5 from by rw [←hC,aMk,bMq,hn])
 rw [show plus n m=carried (pTo n m 5)from rfl,hC]
 rw [hC]at HCC
 clear hn hm hC
 have HI5:=Qz.k (show ∀ l:List Int,l.length=5→(Tryz.prog.info? 216).map (·.size)=some l.length from fun l hl=>by rw [hl];kernel_rfl)
 go_enter Tryz.func207,Tryz.ntmps207
 go_wp2_with (first
  |((with_reducible refine ahk (N:=2) rfl ?_);refine aik ?hg (N:=2) ?hd (cs:=arrV .u64 n) (t:=216) ?hr ?_;(case hd=>rfl);(case hg=>rfl);(case hr=>first|(go_simp;done)|(go_simp;rfl));intro g1 hg w4 hbox hb;have HB4:=Qz.k hb;have HA4:=Qz.k (show Arr w4 g1 216 .u64 n from hbox);have GE1:=Qz.k ((by rw [hg];exact Nat.le_refl _):w.heap.size≤g1);clear hbox hb hg)
  |((with_reducible refine ahk (N:=3) rfl ?_);refine aik ?hg (N:=3) ?hd (cs:=arrV .u64 m) (t:=216) ?hr ?_;(case hd=>rfl);(case hg=>rfl);(case hr=>first|(go_simp;done)|(go_simp;rfl));intro g3 hg w6 hbox hb;have HB6:=Qz.k (aaz HB4.out hb);have HM6:=Qz.k (show Arr w6 g3 216 .u64 m from hbox);have HA6:=Qz.k (Arr.below HA4.out hb);have GE3:=Qz.k ((by rw [hg];exact HA4.out.lt):g1<g3);clear HA4 HB4 hbox hb hg)
  |((with_reducible refine ahk (N:=4) rfl ?_);refine aik ?hg (N:=4) ?hd (cs:=arrV .u64 (List.replicate 5 0)) (t:=216) ?hr ?_;(case hd=>rfl);(case hg=>rfl);(case hr=>first|(go_simp;done)|(go_simp;rfl));intro g2 hg w5 hbox hb;have HB5:=Qz.k (aaz HB6.out hb);have HZ5:=Qz.k (show Arr w5 g2 216 .u64 (List.replicate 5 0)from hbox);have HA5:=Qz.k (Arr.below HA6.out hb);have HM5:=Qz.k (Arr.below HM6.out hb);have GE2:=Qz.k ((by rw [hg];exact HM6.out.lt):g3<g2);clear HA6 HM6 HB6 hbox hb hg))
 go_loopg [6] 5 (fun kq v6 W'=>∃ (k:Nat),v6=.int .i64 (k:Int)∧kq=5-k∧k≤5∧Qz (Arr W' g1 216 .u64 (pTo n m k))∧Qz (Arr W' g3 216 .u64 m)∧Qz (Arr W' g2 216 .u64 (List.replicate 5 0))∧Qz (Below w.heap.size w W'))
 case atStart=>exact⟨0,rfl,rfl,by omega,HA5,HM5,HZ5,HB5⟩
 case round=>
  clear HA5 HM5 HZ5 HB5
  obtain⟨k,rfl,rfl,hk,HA,HMM,HZ,HB⟩:=hrel
  have HL:=Qz.k (show(pTo n m k).length=5 from by rw [bMq];exact HN.out)
  by_cases hlt:k<5
  ·have c3:decide ((k:Int)<5)=true:=decide_eq_true (by omega)
   have c4:decide (k<5)=true:=decide_eq_true hlt
   have n0:(k:Int)<5:=by omega
   have HW:=Qz.k (show wrap64 ((k:Int)+1)=((k+1:Nat):Int)from by rw [agq (by omega) (by omega)];omega)
   have HNX:=Qz.k (show pTo n m (k+1)=(pTo n m k).set k (IntKind.u64.wrap (rd (pTo n m k) (k:Int)+rd m (k:Int)))from rfl)
   have hcx:wr.cell? ⟨g1,k,none⟩=some (.int .u64 (rd (pTo n m k) (k:Int))):=HA.out.cell (by have:=HL.out;omega)
   have hcy:wr.cell? ⟨g3,k,none⟩=some (.int .u64 (rd m (k:Int))):=HMM.out.cell (by have:=HM.out;omega)
   have hfx:=HA.out.froz k
   generalize rd (pTo n m k) (k:Int)=y at *
   generalize rd m (k:Int)=z at *
   go_upto_region 4 with(fail)
   refine axq (n:=9) (S:=fun w'=>w'.cell? ⟨g1,k,none⟩=some (.int .u64 y)∧w'.cell? ⟨g3,k,none⟩=some (.int .u64 z)) (ds:=[8]) (bl 9 0) (by kernel_rfl) rfl rfl ⟨hcx,hcy⟩ (fun hHeld=>?_)
   refine pu_ 0 9 ?_ ?_ (bl 9 1) rfl rfl (by kernel_rfl) ?_ ?_ ?_
   rotate_left 2
   ·intro w';go_simp;with_reducible rfl
   ·simp only [Act.put,putA,putZ,putS,abq,abk];rfl
   refine pu_ 1 10 ?_ ?_ (bl 9 3) rfl rfl (by kernel_rfl) ?_ ?_ ?_
   rotate_left 2
   ·intro w';go_simp;with_reducible rfl
   ·simp only [Act.put,putA,putZ,putS,abq,abk];rfl
   refine pu_ 3 12 ?_ ?_ (bl 9 11) rfl rfl (by kernel_rfl) ?_ ?_ ?_
   rotate_left 2
   ·intro w';go_simp;with_reducible rfl
   ·simp only [Act.put,putA,putZ,putS,abq,abk];rfl
   refine pu_ 4 13 ?_ ?_ (bl 9 27) rfl rfl (by kernel_rfl) ?_ ?_ ?_
   rotate_left 2
   ·intro w';go_simp;with_reducible rfl
   ·simp only [Act.put,putA,putZ,putS,abq,abk];rfl
   refine tk_ 2 11 ?_ ?_ (bl 9 31) rfl rfl (by kernel_rfl) hHeld ?_ ?_ ?_
   rotate_left 2
   ·rintro w' ⟨s0,s1⟩;go_simp;with_reducible rfl
   ·simp only [Act.put,putA,putZ,putS,abq,abk];rfl
   refine tk_ 5 14 ?_ ?_ (bl 9 63) rfl rfl (by kernel_rfl) hHeld ?_ ?_ ?_
   rotate_left 2
   ·rintro w' ⟨s0,s1⟩;go_simp;with_reducible rfl
   ·simp only [Act.put,putA,putZ,putS,abq,abk];rfl
   refine pu_ 6 15 ?_ ?_ (bl 9 127) rfl rfl (by kernel_rfl) ?_ ?_ ?_
   rotate_left 2
   ·intro w';go_simp;with_reducible rfl
   ·simp only [Act.put,putA,putZ,putS,abq,abk];rfl
   refine pu_ 7 16 ?_ ?_ (bl 9 255) rfl rfl (by kernel_rfl) ?_ ?_ ?_
   rotate_left 2
   ·intro w';go_simp;with_reducible rfl
   ·simp only [Act.put,putA,putZ,putS,abq,abk];rfl
   refine bdz (i:=8) (N:=none) (bl 9 511) rfl rfl (by kernel_rfl) (by decide) (fun K hK=>?_)
   refine bbk (w1:=?_) (by rfl) rfl ?_ ?_
   rotate_left
   ·go_simp
    rfl
   refine hK.out _ _ ?_
   clear hK K
   refine aPz (by kernel_rfl) ?_
   go_wp2
   go_roundg (5-(k+1))
   case measure=>exact(by omega)
   case rel=>
    (try rw [HW.out])
    exact⟨k+1,rfl,rfl,hlt,⟨by rw [HNX.out];exact(Arr.drew HA.out).put k _⟩,⟨(Arr.drew HMM.out).far (by show g3≠g1;have:=GE3.out;omega) _⟩,⟨(Arr.drew HZ.out).far (by show g2≠g1;have:=GE2.out;have:=GE3.out;omega) _⟩,⟨adq (aez HB.out) GE1.out⟩⟩
  ·have c3:decide ((k:Int)<5)=false:=decide_eq_false (by omega)
   have c4:decide (k<5)=false:=decide_eq_false hlt
   obtain rfl:k=5:=by omega
   obtain⟨PT,hPT⟩:∃ PT,pTo n m 5=PT:=⟨_,rfl⟩
   rw [hPT]at HA HL HCC
   clear hPT
   have HEQ:=Qz.k (show(List.replicate 5 (0:Int)).length=C.length from by rw [HCL.out];rfl)
   go_wp2_with (first
    |(refine ayk 216 (.tmp 2) rfl rfl rfl HA.out Tryz.underlying216 (HI5.out PT HL.out) ?_))
   refine(HCC.out _).mono ?_
   rintro e w7 ⟨rfl,hb⟩
   have HZ7:=Qz.k (Arr.below HZ.out hb)
   have HB7:=Qz.k (aaz HB.out hb)
   clear hb HZ HB HA HMM
   go_wp2_with (first
    |(refine arq (g:=g2) (l':=C) 216 (.tmp 4) (.tmp 19) rfl rfl rfl rfl rfl HZ7.out (HI5.out C HCL.out) HEQ.out ?_))
   have HF:=Qz.k (Arr.row HZ7.out C)
   refine bodyPost_ret (v := .agg (arrV .u64 C)) ?_ rfl ⟨rfl,?_⟩
   ·exact Arr.result rfl _ HF.out rfl Tryz.underlying216 (HI5.out C HCL.out)
   ·exact anz HB7.out (by have:=GE1.out;have:=GE2.out;have:=GE3.out;omega)
theorem amk : ∀ l:List Int,l.length=5→(Tryz.prog.info? 216).map (·.size)=some l.length:=fun l hl=>by rw [hl];kernel_rfl
set_option maxHeartbeats 2000000 in
theorem poly_num_up.calls (n:List Int)(hn:n.length=5)(w:World) :
  Calls Tryz.prog 261 #[.agg (arrV .u64 n)] w fun e w'=>∃ m:List Int,e=.returned (.agg (arrV .u64 m))∧m.length=5∧Below w.heap.size w w':=by
 have HN:=Qz.k hn
 clear hn
 go_enter Tryz.func261,Tryz.ntmps261
 go_wp2_with (first
  |((with_reducible refine ahk (N:=1) rfl ?_);refine aik ?hg (N:=1) ?hd (cs:=arrV .u64 (n)) (t:=216) ?hr ?_;(case hd=>rfl);(case hg=>rfl);(case hr=>first|(go_simp;done)|(go_simp;rfl));intro g1 hg w4 hbox hb;have HA4:=Qz.k (show Arr w4 g1 216 .u64 (n)from hbox);have GEg1:=Qz.k (show w.heap.size≤g1 from by rw [hg];exact Nat.le_refl _);have HB4:=Qz.k (hb);clear hbox hb hg )
  |((with_reducible refine ahk (N:=2) rfl ?_);refine aik ?hg (N:=2) ?hd (cs:=arrV .u64 (List.replicate 5 0)) (t:=216) ?hr ?_;(case hd=>rfl);(case hg=>rfl);(case hr=>first|(go_simp;done)|(go_simp;rfl));intro g2 hg w5 hbox hb;have HZ5:=Qz.k (show Arr w5 g2 216 .u64 (List.replicate 5 0)from hbox);have GEg2:=Qz.k (show w.heap.size≤g2 from by rw [hg];exact HB4.out.size);have HB5:=Qz.k (aaz HB4.out hb);have NEg2g1:=Qz.k (show g2≠g1 from by rw [hg];exact Nat.ne_of_gt HA4.out.lt);have HA5:=Qz.k (Arr.below HA4.out hb);clear hbox hb hg HB4 HA4))
 go_loopg [4] 4 (fun kq v4 W'=>∃ (k:Nat) (l:List Int),v4=.int .i64 (k:Int)∧kq=4-k∧k≤4∧Qz (l.length=5)∧Qz (Arr W' g1 216 .u64 l)∧Qz (Arr W' g2 216 .u64 (List.replicate 5 0))∧Qz (Below w.heap.size w W'))
 case atStart=>exact⟨0,n,rfl,rfl,by omega,HN,HA5,HZ5,HB5⟩
 case round=>
  clear HA5 HZ5 HB5
  obtain⟨k,l,rfl,rfl,hk,HL,HA,HZ,HB⟩:=hrel
  by_cases hlt:k<4
  ·have c3:decide ((k:Int)<4)=true:=decide_eq_true (by omega)
   have c4:decide (k<4)=true:=decide_eq_true hlt
   have n0:(k:Int)<4:=by omega
   have HW:=Qz.k (show wrap64 ((k:Int)+1)=((k+1:Nat):Int)from by rw [agq (by omega) (by omega)];omega)
   obtain⟨k2,hk2⟩:∃ k2,k+1=k2:=⟨_,rfl⟩
   have HK2:=Qz.k hk2
   have HK3:=Qz.k (show k≠k2 from by omega)
   have n2:k2<5:=by omega
   have n3:(k2:Int)<5:=by omega
   have n4:k<5:=by omega
   have n5:(k:Int)<5:=by omega
   have hcx:wr.cell? ⟨g1,k,none⟩=some (.int .u64 (rd l (k:Int))):=HA.out.cell (by have:=HL.out;omega)
   have hcy:wr.cell? ⟨g1,k2,none⟩=some (.int .u64 (rd l (k2:Int))):=HA.out.cell (by have:=HL.out;omega)
   have hw:wrap64 ((k:Int)+1)=(k2:Int):=by rw [HW.out,hk2]
   have hf2:=HA.out.froz k2
   clear hk2
   generalize rd l (k:Int)=y at *
   generalize rd l (k2:Int)=z at *
   go_upto_region 4 with(fail)
   refine axq (n:=11) (S:=fun w'=>w'.cell? ⟨g1,k,none⟩=some (.int .u64 y)∧w'.cell? ⟨g1,k2,none⟩=some (.int .u64 z)) (ds:=[10]) (bl 11 0) (by kernel_rfl) rfl rfl ⟨hcx,hcy⟩ (fun hHeld=>?_)
   refine pu_ 0 7 ?_ ?_ (bl 11 1) rfl rfl (by kernel_rfl) ?_ ?_ ?_
   rotate_left 2
   ·intro w';go_simp;with_reducible rfl
   ·simp only [Act.put,putA,putZ,putS,abq,abk];rfl
   refine pu_ 1 8 ?_ ?_ (bl 11 3) rfl rfl (by kernel_rfl) ?_ ?_ ?_
   rotate_left 2
   ·intro w';go_simp;with_reducible rfl
   ·simp only [Act.put,putA,putZ,putS,abq,abk];rfl
   refine pu_ 2 9 ?_ ?_ (bl 11 7) rfl rfl (by kernel_rfl) ?_ ?_ ?_
   rotate_left 2
   ·intro w';go_simp;with_reducible rfl
   ·simp only [Act.put,putA,putZ,putS,abq,abk];rfl
   refine pu_ 4 11 ?_ ?_ (bl 11 23) rfl rfl (by kernel_rfl) ?_ ?_ ?_
   rotate_left 2
   ·intro w';go_simp;with_reducible rfl
   ·simp only [Act.put,putA,putZ,putS,abq,abk];rfl
   refine pu_ 5 12 ?_ ?_ (bl 11 55) rfl rfl (by kernel_rfl) ?_ ?_ ?_
   rotate_left 2
   ·intro w';go_simp;with_reducible rfl
   ·simp only [Act.put,putA,putZ,putS,abq,abk];rfl
   refine tk_ 3 10 ?_ ?_ (bl 11 63) rfl rfl (by kernel_rfl) hHeld ?_ ?_ ?_
   rotate_left 2
   ·rintro w' ⟨s0,s1⟩;go_simp;with_reducible rfl
   ·simp only [Act.put,putA,putZ,putS,abq,abk];rfl
   refine tk_ 6 13 ?_ ?_ (bl 11 127) rfl rfl (by kernel_rfl) hHeld ?_ ?_ ?_
   rotate_left 2
   ·rintro w' ⟨s0,s1⟩;go_simp;with_reducible rfl
   ·simp only [Act.put,putA,putZ,putS,abq,abk];rfl
   refine pu_ 7 14 ?_ ?_ (bl 11 255) rfl rfl (by kernel_rfl) ?_ ?_ ?_
   rotate_left 2
   ·intro w';go_simp;with_reducible rfl
   ·simp only [Act.put,putA,putZ,putS,abq,abk];rfl
   refine pu_ 8 15 ?_ ?_ (bl 11 511) rfl rfl (by kernel_rfl) ?_ ?_ ?_
   rotate_left 2
   ·intro w';go_simp;with_reducible rfl
   ·simp only [Act.put,putA,putZ,putS,abq,abk];rfl
   refine pu_ 9 16 ?_ ?_ (bl 11 1023) rfl rfl (by kernel_rfl) ?_ ?_ ?_
   rotate_left 2
   ·intro w';go_simp;with_reducible rfl
   ·simp only [Act.put,putA,putZ,putS,abq,abk];rfl
   refine bdz (i:=10) (N:=none) (bl 11 2047) rfl rfl (by kernel_rfl) (by decide) (fun K hK=>?_)
   refine bbk (w1:=?_) (by rfl) rfl ?_ ?_
   rotate_left
   ·go_simp
    rfl
   refine hK.out _ _ ?_
   clear hK K
   refine aPz (by kernel_rfl) ?_
   have HA7:=Qz.k ((Arr.drew (HA.out.put k2 (IntKind.u64.wrap (z+y/67108864)))))
   have HZ7:=Qz.k (Arr.drew (HZ.out.far (p:=⟨g1,k2,none⟩) NEg2g1.out (.int .u64 (IntKind.u64.wrap (z+y/67108864)))))
   have HB7:=Qz.k (aez (adq (g:=g1) (j:=k2) (v := .int .u64 (IntKind.u64.wrap (z+y/67108864))) HB.out GEg1.out))
   generalize (wr.setCell ⟨g1,k2,none⟩ (.int .u64 (IntKind.u64.wrap (z+y/67108864)))).drew=wb at *
   have HL7:=Qz.k (show(l.set k2 (IntKind.u64.wrap (z+y/67108864))).length=5 from by rw [List.length_set,HL.out])
   generalize l.set k2 (IntKind.u64.wrap (z+y/67108864))=l2 at *
   clear hcx hcy hf2 HA HZ HB
   have hcx:wb.cell? ⟨g1,k,none⟩=some (.int .u64 (rd l2 (k:Int))):=HA7.out.cell (by have:=HL7.out;omega)
   have hfx:=HA7.out.froz k
   generalize rd l2 (k:Int)=x at *
   go_wp2
   go_roundg (4-(k+1))
   case measure=>exact(by omega)
   case rel=>
    (try rw [HW.out])
    exact⟨k+1,_,rfl,rfl,hlt,⟨by rw [List.length_set,HL7.out]⟩,⟨HA7.out.put k _⟩,⟨HZ7.out.far NEg2g1.out _⟩,⟨adq HB7.out GEg1.out⟩⟩
  ·have c3:decide ((k:Int)<4)=false:=decide_eq_false (by omega)
   have c4:decide (k<4)=false:=decide_eq_false hlt
   go_wp2_with (first
    |(refine ayk 216 (.tmp 1) rfl rfl rfl HA.out Tryz.underlying216 (amk l HL.out) ?_)
    |(refine arq (g:=g2) (l':=l) 216 (.tmp 2) (.tmp 23) rfl rfl rfl rfl rfl HZ.out (amk l HL.out) (by rw [HL.out];rfl) ?_))
   have HF:=Qz.k (Arr.row HZ.out l)
   refine bodyPost_ret (v := .agg (arrV .u64 l)) ?_ rfl ⟨l,rfl,HL.out,?_⟩
   ·exact Arr.result rfl _ HF.out rfl Tryz.underlying216 (amk l HL.out)
   ·exact anz HB.out GEg2.out
set_option maxHeartbeats 2000000 in
theorem poly_num_times.calls (n m:List Int)(hn:n.length=5)(hm:m.length=5)(w:World) :
  Calls Tryz.prog 208 #[.agg (arrV .u64 n),.agg (arrV .u64 m)] w fun e w'=>∃ r:List Int,e=.returned (.agg (arrV .u64 r))∧r.length=5∧Below w.heap.size w w':=by
 have HN:=Qz.k hn
 have HM:=Qz.k hm
 clear hn hm
 go_enter Tryz.func208,Tryz.ntmps208
 go_wp2_with (first
  |((with_reducible refine ahk (N:=2) rfl ?_);refine aik ?hg (N:=2) ?hd (cs:=arrV .u64 (n)) (t:=216) ?hr ?_;(case hd=>rfl);(case hg=>rfl);(case hr=>first|(go_simp;done)|(go_simp;rfl));intro g1 hg w4 hbox hb;have HA4:=Qz.k (show Arr w4 g1 216 .u64 (n)from hbox);have GEg1:=Qz.k (show w.heap.size≤g1 from by rw [hg];exact Nat.le_refl _);have HB4:=Qz.k (hb);clear hbox hb hg )
  |((with_reducible refine ahk (N:=3) rfl ?_);refine aik ?hg (N:=3) ?hd (cs:=arrV .u64 (m)) (t:=216) ?hr ?_;(case hd=>rfl);(case hg=>rfl);(case hr=>first|(go_simp;done)|(go_simp;rfl));intro g2 hg w5 hbox hb;have HM5:=Qz.k (show Arr w5 g2 216 .u64 (m)from hbox);have GEg2:=Qz.k (show w.heap.size≤g2 from by rw [hg];exact HB4.out.size);have HB5:=Qz.k (aaz HB4.out hb);have NEg2g1:=Qz.k (show g2≠g1 from by rw [hg];exact Nat.ne_of_gt HA4.out.lt);have HA5:=Qz.k (Arr.below HA4.out hb);clear hbox hb hg HB4 HA4)
  |((with_reducible refine ahk (N:=4) rfl ?_);refine aik ?hg (N:=4) ?hd (cs:=arrV .u64 (List.replicate 5 0)) (t:=216) ?hr ?_;(case hd=>rfl);(case hg=>rfl);(case hr=>first|(go_simp;done)|(go_simp;rfl));intro g3 hg w6 hbox hb;have HZ6:=Qz.k (show Arr w6 g3 216 .u64 (List.replicate 5 0)from hbox);have GEg3:=Qz.k (show w.heap.size≤g3 from by rw [hg];exact HB5.out.size);have HB6:=Qz.k (aaz HB5.out hb);have NEg3g1:=Qz.k (show g3≠g1 from by rw [hg];exact Nat.ne_of_gt HA5.out.lt);have HA6:=Qz.k (Arr.below HA5.out hb);have NEg3g2:=Qz.k (show g3≠g2 from by rw [hg];exact Nat.ne_of_gt HM5.out.lt);have HM6:=Qz.k (Arr.below HM5.out hb);clear hbox hb hg HB5 HA5 HM5)
  |((with_reducible refine ahk (N:=5) rfl ?_);refine aik ?hg (N:=5) ?hd (cs:=arrV .u64 (List.replicate 5 0)) (t:=216) ?hr ?_;(case hd=>rfl);(case hg=>rfl);(case hr=>first|(go_simp;done)|(go_simp;rfl));intro g4 hg w7 hbox hb;have HO7:=Qz.k (show Arr w7 g4 216 .u64 (List.replicate 5 0)from hbox);have GEg4:=Qz.k (show w.heap.size≤g4 from by rw [hg];exact HB6.out.size);have HB7:=Qz.k (aaz HB6.out hb);have NEg4g1:=Qz.k (show g4≠g1 from by rw [hg];exact Nat.ne_of_gt HA6.out.lt);have HA7:=Qz.k (Arr.below HA6.out hb);have NEg4g2:=Qz.k (show g4≠g2 from by rw [hg];exact Nat.ne_of_gt HM6.out.lt);have HM7:=Qz.k (Arr.below HM6.out hb);have NEg4g3:=Qz.k (show g4≠g3 from by rw [hg];exact Nat.ne_of_gt HZ6.out.lt);have HZ7:=Qz.k (Arr.below HZ6.out hb);clear hbox hb hg HB6 HA6 HM6 HZ6))
 go_loopg [6,7,8,9,12] 5 (fun kq v6 v7 v8 v9 v12 W'=>∃ (i:Nat) (o:List Int),v9=.int .i64 (i:Int)∧kq=5-i∧i≤5∧Qz (o.length=5)∧Qz (Arr W' g4 216 .u64 o)∧Qz (Arr W' g1 216 .u64 n)∧Qz (Arr W' g2 216 .u64 m)∧Qz (Arr W' g3 216 .u64 (List.replicate 5 0))∧Qz (Below w.heap.size w W'))
 case atStart=>exact⟨0,_,rfl,rfl,by omega,⟨rfl⟩,HO7,HA7,HM7,HZ7,HB7⟩
 case round=>
  clear HO7 HA7 HM7 HZ7 HB7
  obtain⟨i,o,rfl,rfl,hi,HL,HO,HA,HMM,HZ,HB⟩:=hrel
  by_cases hlt:i<5
  ·have c3:decide ((i:Int)<5)=true:=decide_eq_true (by omega)
   have c4:decide (i<5)=true:=decide_eq_true hlt
   have n0:(i:Int)<5:=by omega
   have HW:=Qz.k (show wrap64 ((i:Int)+1)=((i+1:Nat):Int)from by rw [agq (by omega) (by omega)];omega)
   go_wp2
   go_loopg [7,8,12] 5 (fun kq v7 v8 v12 W'=>∃ (j:Nat) (o:List Int),v12=.int .i64 (j:Int)∧kq=5-j∧j≤5∧Qz (o.length=5)∧Qz (Arr W' g4 216 .u64 o)∧Qz (Arr W' g1 216 .u64 n)∧Qz (Arr W' g2 216 .u64 m)∧Qz (Arr W' g3 216 .u64 (List.replicate 5 0))∧Qz (Below w.heap.size w W'))
   case atStart=>exact⟨0,_,rfl,rfl,by omega,HL,HO,HA,HMM,HZ,HB⟩
   case round=>
    clear HL HO HA HMM HZ HB
    clear o
    obtain⟨j,o,rfl,rfl,hj,HL,HO,HA,HMM,HZ,HB⟩:=hrel
    by_cases hlt2:j<5
    ·have c5:decide ((j:Int)<5)=true:=decide_eq_true (by omega)
     have c6:decide (j<5)=true:=decide_eq_true hlt2
     have n1:(j:Int)<5:=by omega
     have HW2:=Qz.k (show wrap64 ((j:Int)+1)=((j+1:Nat):Int)from by rw [agq (by omega) (by omega)];omega)
     have hcx:wr.cell? ⟨g1,i,none⟩=some (.int .u64 (rd n (i:Int))):=HA.out.cell (by have:=HN.out;omega)
     have hcy:wr.cell? ⟨g2,j,none⟩=some (.int .u64 (rd m (j:Int))):=HMM.out.cell (by have:=HM.out;omega)
     generalize rd n (i:Int)=y at *
     generalize rd m (j:Int)=z at *
     go_upto_region 8 with(fail)
     refine axq (n:=8) (S:=fun w'=>w'.cell? ⟨g1,i,none⟩=some (.int .u64 y)∧w'.cell? ⟨g2,j,none⟩=some (.int .u64 z)) (ds:=[]) (bl 8 0) (by kernel_rfl) rfl rfl ⟨hcx,hcy⟩ (fun hHeld=>?_)
     refine pu_ 0 15 ?_ ?_ (bl 8 1) rfl rfl (by kernel_rfl) ?_ ?_ ?_
     rotate_left 2
     ·intro w';go_simp;with_reducible rfl
     ·simp only [Act.put,putA,putZ,putS,abq,abk];rfl
     refine pu_ 1 16 ?_ ?_ (bl 8 3) rfl rfl (by kernel_rfl) ?_ ?_ ?_
     rotate_left 2
     ·intro w';go_simp;with_reducible rfl
     ·simp only [Act.put,putA,putZ,putS,abq,abk];rfl
     refine pu_ 3 18 ?_ ?_ (bl 8 11) rfl rfl (by kernel_rfl) ?_ ?_ ?_
     rotate_left 2
     ·intro w';go_simp;with_reducible rfl
     ·simp only [Act.put,putA,putZ,putS,abq,abk];rfl
     refine pu_ 4 19 ?_ ?_ (bl 8 27) rfl rfl (by kernel_rfl) ?_ ?_ ?_
     rotate_left 2
     ·intro w';go_simp;with_reducible rfl
     ·simp only [Act.put,putA,putZ,putS,abq,abk];rfl
     refine tk_ 2 17 ?_ ?_ (bl 8 31) rfl rfl (by kernel_rfl) hHeld ?_ ?_ ?_
     rotate_left 2
     ·rintro w' ⟨s0,s1⟩;go_simp;with_reducible rfl
     ·simp only [Act.put,putA,putZ,putS,abq,abk];rfl
     refine tk_ 5 20 ?_ ?_ (bl 8 63) rfl rfl (by kernel_rfl) hHeld ?_ ?_ ?_
     rotate_left 2
     ·rintro w' ⟨s0,s1⟩;go_simp;with_reducible rfl
     ·simp only [Act.put,putA,putZ,putS,abq,abk];rfl
     refine pu_ 6 21 ?_ ?_ (bl 8 127) rfl rfl (by kernel_rfl) ?_ ?_ ?_
     rotate_left 2
     ·intro w';go_simp;with_reducible rfl
     ·simp only [Act.put,putA,putZ,putS,abq,abk];rfl
     refine pu_ 7 8 ?_ ?_ (bl 8 255) rfl rfl (by kernel_rfl) ?_ ?_ ?_
     rotate_left 2
     ·intro w';go_simp;with_reducible rfl
     ·simp only [Act.put,putA,putZ,putS,abq,abk];rfl
     refine aPz (by kernel_rfl) ?_
     have HO7:=Qz.k (Arr.drew HO.out)
     have HA7:=Qz.k (Arr.drew HA.out)
     have HM7:=Qz.k (Arr.drew HMM.out)
     have HZ7:=Qz.k (Arr.drew HZ.out)
     have HB7:=Qz.k (aez HB.out)
     clear HO HA HMM HZ HB hcx hcy
     generalize wr.drew=wb at *
     have hq5:(i+j)%5<5:=Nat.mod_lt _ (by decide)
     have hcz:wb.cell? ⟨g4,(i+j)%5,none⟩=some (.int .u64 (rd o (((i+j)%5:Nat):Int))):=HO7.out.cell (by have:=HL.out;omega)
     have hfz:=HO7.out.froz ((i+j)%5)
     generalize rd o (((i+j)%5:Nat):Int)=x at *
     by_cases hge:5≤i+j
     ·have c7:decide ((5:Int)≤(i:Int)+(j:Int))=true:=decide_eq_true (by omega)
      have c8:decide (5≤i+j)=true:=decide_eq_true hge
      go_wp2
      go_roundg (5-(j+1))
      case measure=>exact(by omega)
      case rel=>
       (try rw [HW2.out])
       exact⟨j+1,_,rfl,rfl,hlt2,⟨by rw [List.length_set,HL.out]⟩,⟨HO7.out.put _ _⟩,⟨HA7.out.far (Ne.symm NEg4g1.out) _⟩,⟨HM7.out.far (Ne.symm NEg4g2.out) _⟩,⟨HZ7.out.far (Ne.symm NEg4g3.out) _⟩,⟨adq HB7.out GEg4.out⟩⟩
     ·have c7:decide ((5:Int)≤(i:Int)+(j:Int))=false:=decide_eq_false (by omega)
      have c8:decide (5≤i+j)=false:=decide_eq_false hge
      go_wp2
      go_roundg (5-(j+1))
      case measure=>exact(by omega)
      case rel=>
       (try rw [HW2.out])
       exact⟨j+1,_,rfl,rfl,hlt2,⟨by rw [List.length_set,HL.out]⟩,⟨HO7.out.put _ _⟩,⟨HA7.out.far (Ne.symm NEg4g1.out) _⟩,⟨HM7.out.far (Ne.symm NEg4g2.out) _⟩,⟨HZ7.out.far (Ne.symm NEg4g3.out) _⟩,⟨adq HB7.out GEg4.out⟩⟩
    ·have c5:decide ((j:Int)<5)=false:=decide_eq_false (by omega)
     have c6:decide (j<5)=false:=decide_eq_false hlt2
     go_wp2
     go_roundg (5-(i+1))
     case measure=>exact(by omega)
     case rel=>
      (try rw [HW.out])
      exact⟨i+1,o,rfl,rfl,hlt,HL,HO,HA,HMM,HZ,HB⟩
  ·have c3:decide ((i:Int)<5)=false:=decide_eq_false (by omega)
   have c4:decide (i<5)=false:=decide_eq_false hlt
   go_wp2_with (first
    |(refine ayk 216 (.tmp 5) rfl rfl rfl HO.out Tryz.underlying216 (amk o HL.out) ?_))
   refine(poly_num_carried.calls o HL.out _).mono ?_
   rintro e w8 ⟨rfl,hb⟩
   have HB8:=Qz.k (aaz HB.out hb)
   have HZ8:=Qz.k (Arr.below HZ.out hb)
   have HL8:=Qz.k (show(carried o).length=5 from by rw [aMk,HL.out])
   clear hb HO HA HMM HZ HB
   generalize carried o=o2 at *
   go_wp2_with (fail)
   refine(poly_num_carried.calls o2 HL8.out _).mono ?_
   rintro e w9 ⟨rfl,hb⟩
   have HB9:=Qz.k (aaz HB8.out hb)
   have HZ9:=Qz.k (Arr.below HZ8.out hb)
   have HL9:=Qz.k (show(carried o2).length=5 from by rw [aMk,HL8.out])
   clear hb HZ8 HB8
   generalize carried o2=o3 at *
   go_wp2_with (first
    |(refine arq (g:=g3) (l':=o3) 216 (.tmp 4) (.tmp 41) rfl rfl rfl rfl rfl HZ9.out (amk o3 HL9.out) (by rw [HL9.out];rfl) ?_))
   have HF:=Qz.k (Arr.row HZ9.out o3)
   refine bodyPost_ret (v := .agg (arrV .u64 o3)) ?_ rfl ⟨o3,rfl,HL9.out,?_⟩
   ·exact Arr.result rfl _ HF.out rfl Tryz.underlying216 (amk o3 HL9.out)
   ·exact anz HB9.out GEg3.out
set_option maxHeartbeats 2000000 in
theorem poly_num_whole.calls (n:List Int)(hn:n.length=5)(w:World) :
  Calls Tryz.prog 209 #[.agg (arrV .u64 n)] w fun e w'=>∃ r:List Int,e=.returned (.agg (arrV .u64 r))∧r.length=5∧Below w.heap.size w w':=by
 have HN:=Qz.k hn
 clear hn
 go_enter Tryz.func209,Tryz.ntmps209
 go_wp2_with (first
  |((with_reducible refine ahk (N:=1) rfl ?_);refine aik ?hg (N:=1) ?hd (cs:=arrV .u64 (n)) (t:=216) ?hr ?_;(case hd=>rfl);(case hg=>rfl);(case hr=>first|(go_simp;done)|(go_simp;rfl));intro g1 hg w4 hbox hb;have HA4:=Qz.k (show Arr w4 g1 216 .u64 (n)from hbox);have GEg1:=Qz.k (show w.heap.size≤g1 from by rw [hg];exact Nat.le_refl _);have HB4:=Qz.k (hb);clear hbox hb hg )
  |((with_reducible refine ahk (N:=2) rfl ?_);refine aik ?hg (N:=2) ?hd (cs:=arrV .u64 (List.replicate 5 0)) (t:=216) ?hr ?_;(case hd=>rfl);(case hg=>rfl);(case hr=>first|(go_simp;done)|(go_simp;rfl));intro g2 hg w5 hbox hb;have HZ5:=Qz.k (show Arr w5 g2 216 .u64 (List.replicate 5 0)from hbox);have GEg2:=Qz.k (show w.heap.size≤g2 from by rw [hg];exact HB4.out.size);have HB5:=Qz.k (aaz HB4.out hb);have NEg2g1:=Qz.k (show g2≠g1 from by rw [hg];exact Nat.ne_of_gt HA4.out.lt);have HA5:=Qz.k (Arr.below HA4.out hb);clear hbox hb hg HB4 HA4)
  |(refine ayk 216 (.tmp 1) rfl rfl rfl HA5.out Tryz.underlying216 (amk n HN.out) ?_))
 refine(poly_num_carried.calls n HN.out _).mono ?_
 rintro e w6 ⟨rfl,hb⟩
 have HB6:=Qz.k (aaz HB5.out hb)
 have HZ6:=Qz.k (Arr.below HZ5.out hb)
 have HA6:=Qz.k (Arr.below HA5.out hb)
 have HL6:=Qz.k (show(carried n).length=5 from by rw [aMk,HN.out])
 clear hb HZ5 HB5 HA5
 generalize carried n=o2 at *
 go_wp2_with (fail)
 refine(poly_num_carried.calls o2 HL6.out _).mono ?_
 rintro e w7 ⟨rfl,hb⟩
 have HB7:=Qz.k (aaz HB6.out hb)
 have HZ7:=Qz.k (Arr.below HZ6.out hb)
 have HA7:=Qz.k (Arr.below HA6.out hb)
 have HL7:=Qz.k (show(carried o2).length=5 from by rw [aMk,HL6.out])
 clear hb HZ6 HB6 HA6
 generalize carried o2=o3 at *
 go_upto_region 2 with(first
  |(refine arq (g:=g1) (l':=o3) 216 (.tmp 1) (.tmp 6) rfl rfl rfl rfl rfl HA7.out (amk o3 HL7.out) (by rw [HL7.out,HN.out]) ?_))
 have HA8:=Qz.k (Arr.row HA7.out o3)
 have HZ8:=Qz.k (Arr.aTz HZ7.out NEg2g1.out (arrV .u64 o3))
 have HB8:=Qz.k (anz (c:=arrV .u64 o3) HB7.out GEg1.out)
 generalize w7.setRow g1 (arrV .u64 o3)=w8 at *
 clear HA7 HZ7 HB7
 go_upto_region 4 with(first
  |(refine ayk 216 (.tmp 1) rfl rfl rfl HA8.out Tryz.underlying216 (amk o3 HL7.out) ?_)
  |((with_reducible refine ahk (N:=3) rfl ?_);refine aik ?hg (N:=3) ?hd (cs:=arrV .u64 (List.replicate 5 0)) (t:=216) ?hr ?_;(case hd=>rfl);(case hg=>rfl);(case hr=>first|(go_simp;done)|(go_simp;rfl));intro g3 hg w9 hbox hb;have HX9:=Qz.k (show Arr w9 g3 216 .u64 (List.replicate 5 0)from hbox);have GEg3:=Qz.k (show w.heap.size≤g3 from by rw [hg];exact HB8.out.size);have HB9:=Qz.k (aaz HB8.out hb);have NEg3g1:=Qz.k (show g3≠g1 from by rw [hg];exact Nat.ne_of_gt HA8.out.lt);have HA9:=Qz.k (Arr.below HA8.out hb);have NEg3g2:=Qz.k (show g3≠g2 from by rw [hg];exact Nat.ne_of_gt HZ8.out.lt);have HZ9:=Qz.k (Arr.below HZ8.out hb);clear hbox hb hg HB8 HA8 HZ8)
  |(refine arq (g:=g3) (l':=o3) 216 (.tmp 3) (.tmp 7) rfl rfl rfl rfl rfl HX9.out (amk o3 HL7.out) (by rw [HL7.out];rfl) ?_;have HX10:=Qz.k (Arr.row HX9.out o3);have HA10:=Qz.k (Arr.aTz HA9.out (Ne.symm NEg3g1.out) (arrV .u64 o3));have HZ10:=Qz.k (Arr.aTz HZ9.out (Ne.symm NEg3g2.out) (arrV .u64 o3));have HB10:=Qz.k (anz (c:=arrV .u64 o3) HB9.out GEg3.out);clear HX9 HA9 HZ9 HB9;generalize w9.setRow g3 (arrV .u64 o3)=w10 at *;have hc0:w10.cell? ⟨g3,0,none⟩=some (.int .u64 (rd o3 ((0:Nat):Int))):=HX10.out.cell (i:=0) (by have:=HL7.out;omega);have hf0:=HX10.out.froz 0;generalize rd o3 ((0:Nat):Int)=y at *))
 have HX11:=Qz.k (HX10.out.put 0 (IntKind.u64.wrap (y+5)))
 have HA11:=Qz.k (HA10.out.far (p:=⟨g3,0,none⟩) (Ne.symm NEg3g1.out) (.int .u64 (IntKind.u64.wrap (y+5))))
 have HZ11:=Qz.k (HZ10.out.far (p:=⟨g3,0,none⟩) (Ne.symm NEg3g2.out) (.int .u64 (IntKind.u64.wrap (y+5))))
 have HB11:=Qz.k (adq (j:=0) (v := .int .u64 (IntKind.u64.wrap (y+5))) HB10.out GEg3.out)
 have HL11:=Qz.k (show(o3.set 0 (IntKind.u64.wrap (y+5))).length=5 from by rw [List.length_set,HL7.out])
 clear hc0 hf0 HX10 HA10 HZ10 HB10
 generalize w10.setCell ⟨g3,0,none⟩ (.int .u64 (IntKind.u64.wrap (y+5)))=w11 at *
 generalize o3.set 0 (IntKind.u64.wrap (y+5))=l1 at *
 go_wp2_with (first
  |(refine ayk 216 (.tmp 3) rfl rfl rfl HX11.out Tryz.underlying216 (amk l1 HL11.out) ?_))
 refine(poly_num_up.calls l1 HL11.out _).mono ?_
 rintro e w12 ⟨l2,rfl,hl2,hb⟩
 have HL12:=Qz.k hl2
 have HB12:=Qz.k (aaz HB11.out hb)
 have HZ12:=Qz.k (Arr.below HZ11.out hb)
 have HA12:=Qz.k (Arr.below HA11.out hb)
 have HX12:=Qz.k (Arr.below HX11.out hb)
 clear hb hl2 HZ11 HA11 HX11 HB11
 go_upto_region 5 with(first
  |(refine arq (g:=g3) (l':=l2) 216 (.tmp 3) (.tmp 13) rfl rfl rfl rfl rfl HX12.out (amk l2 HL12.out) (by rw [HL12.out,HL11.out]) ?_))
 have HX13:=Qz.k (Arr.row HX12.out l2)
 have HA13:=Qz.k (Arr.aTz HA12.out (Ne.symm NEg3g1.out) (arrV .u64 l2))
 have HZ13:=Qz.k (Arr.aTz HZ12.out (Ne.symm NEg3g2.out) (arrV .u64 l2))
 have HB13:=Qz.k (anz (c:=arrV .u64 l2) HB12.out GEg3.out)
 clear HX12 HA12 HZ12 HB12
 generalize w12.setRow g3 (arrV .u64 l2)=w13 at *
 have hc4:w13.cell? ⟨g3,4,none⟩=some (.int .u64 (rd l2 ((4:Nat):Int))):=HX13.out.cell (i:=4) (by have:=HL12.out;omega)
 have hf4:=HX13.out.froz 4
 generalize rd l2 ((4:Nat):Int)=z at *
 by_cases hz:z/67108864=0
 ·have c5:decide (z/67108864=0)=true:=decide_eq_true hz
  go_wp2_with (first
   |(refine ayk 216 (.tmp 1) rfl rfl rfl HA13.out Tryz.underlying216 (amk o3 HL7.out) ?_)
   |(refine arq (g:=g2) (l':=o3) 216 (.tmp 2) (.tmp 18) rfl rfl rfl rfl rfl HZ13.out (amk o3 HL7.out) (by rw [HL7.out];rfl) ?_))
  have HF:=Qz.k (Arr.row HZ13.out o3)
  refine bodyPost_ret (v := .agg (arrV .u64 o3)) ?_ rfl ⟨o3,rfl,HL7.out,?_⟩
  ·exact Arr.result rfl _ HF.out rfl Tryz.underlying216 (amk o3 HL7.out)
  ·exact anz HB13.out GEg2.out
 ·have c5:decide (z/67108864=0)=false:=decide_eq_false hz
  go_upto_region 8 with(fail)
  have HX14:=Qz.k (HX13.out.put 4 (Go.bits .and .u64 z 67108863))
  have HZ14:=Qz.k (HZ13.out.far (p:=⟨g3,4,none⟩) (Ne.symm NEg3g2.out) (.int .u64 (Go.bits .and .u64 z 67108863)))
  have HB14:=Qz.k (adq (j:=4) (v := .int .u64 (Go.bits .and .u64 z 67108863)) HB13.out GEg3.out)
  have HL14:=Qz.k (show(l2.set 4 (Go.bits .and .u64 z 67108863)).length=5 from by rw [List.length_set,HL12.out])
  clear hc4 hf4 HX13 HA13 HZ13 HB13
  generalize w13.setCell ⟨g3,4,none⟩ (.int .u64 (Go.bits .and .u64 z 67108863))=w14 at *
  generalize l2.set 4 (Go.bits .and .u64 z 67108863)=l4 at *
  go_wp2_with (first
   |(refine ayk 216 (.tmp 3) rfl rfl rfl HX14.out Tryz.underlying216 (amk l4 HL14.out) ?_)
   |(refine arq (g:=g2) (l':=l4) 216 (.tmp 2) (.tmp 23) rfl rfl rfl rfl rfl HZ14.out (amk l4 HL14.out) (by rw [HL14.out];rfl) ?_))
  have HF:=Qz.k (Arr.row HZ14.out l4)
  refine bodyPost_ret (v := .agg (arrV .u64 l4)) ?_ rfl ⟨l4,rfl,HL14.out,?_⟩
  ·exact Arr.result rfl _ HF.out rfl Tryz.underlying216 (amk l4 HL14.out)
  ·exact anz HB14.out GEg2.out
theorem of_over {k:Nat}{x:Int}(hk:k<17)(h0:0≤x)(h1:x<256)(h16:k=16→x=1)(ho:0<IntKind.u64.wrap (IntKind.u64.wrap x*2 ^ (8*k%26))/67108864):8*k/26+1<5:=by
 by_cases h:k<13
 ·omega
 ·exfalso
  rw [aMq,aMq,Int.emod_eq_of_lt h0 (by omega)]at ho
  have hc:k=13∨k=14∨k=15∨k=16:=by omega
  rcases hc with rfl|rfl|rfl|rfl
  ·rw [show 8*13%26=0 from rfl]at ho
   omega
  ·rw [show 8*14%26=8 from rfl]at ho
   omega
  ·rw [show 8*15%26=16 from rfl]at ho
   omega
  ·rw [show 8*16%26=24 from rfl,h16 rfl]at ho
   omega
set_option maxHeartbeats 2000000 in
theorem poly_of.calls (A0:Option Addr)(c0:Nat)(b:List Int)(w:World)(hr0:Kd.C (Kd.int .u8) w A0 b.length b)(hc0:b.length≤c0)(hn:b.length≤17)(hb:∀ k:Nat,k<b.length→0≤rd b (k:Int)∧rd b (k:Int)<256)(h16:16<b.length→rd b 16=1) :
  Calls Tryz.prog 206 #[.slice A0 b.length c0] w fun e w'=>∃ m:List Int,e=.returned (.agg (arrV .u64 m))∧m.length=5∧Below w.heap.size w w':=by
 have HR0:=Qz.k hr0
 have HC0:=Qz.k hc0
 have HLN:=Qz.k hn
 have HBY:=Qz.k hb
 have H16:=Qz.k h16
 clear hr0 hc0 hn hb h16
 go_enter Tryz.func206,Tryz.ntmps206
 go_wp2_with (first
  |((with_reducible refine ahk (N:=2) rfl ?_);refine aik ?hg (N:=2) ?hd (cs:=arrV .u64 (List.replicate 5 0)) (t:=216) ?hr ?_;(case hd=>rfl);(case hg=>rfl);(case hr=>first|(go_simp;done)|(go_simp;rfl));intro g2 hg w4 hbox hb;have HZ4:=Qz.k (show Arr w4 g2 216 .u64 (List.replicate 5 0)from hbox);have GEg2:=Qz.k (show w.heap.size≤g2 from by rw [hg];exact Nat.le_refl _);have HB4:=Qz.k (hb);clear hbox hb hg )
  |((with_reducible refine ahk (N:=3) rfl ?_);refine aik ?hg (N:=3) ?hd (cs:=arrV .u64 (List.replicate 5 0)) (t:=216) ?hr ?_;(case hd=>rfl);(case hg=>rfl);(case hr=>first|(go_simp;done)|(go_simp;rfl));intro g1 hg w5 hbox hb;have HA5:=Qz.k (show Arr w5 g1 216 .u64 (List.replicate 5 0)from hbox);have GEg1:=Qz.k (show w.heap.size≤g1 from by rw [hg];exact HB4.out.size);have HB5:=Qz.k (aaz HB4.out hb);have NEg1g2:=Qz.k (show g1≠g2 from by rw [hg];exact Nat.ne_of_gt HZ4.out.lt);have HZ5:=Qz.k (Arr.below HZ4.out hb);clear hbox hb hg HB4 HZ4))
 go_loopg [4,5,6,7,8,11] b.length (fun kq v4 v5 v6 v7 v8 v11 W'=>∃ (k:Nat) (l:List Int),v11=.int .i64 (k:Int)∧kq=b.length-k∧k≤b.length∧Qz (l.length=5)∧Qz (Arr W' g1 216 .u64 l)∧Qz (Arr W' g2 216 .u64 (List.replicate 5 0))∧Qz (Below w.heap.size w W'))
 case atStart=>exact⟨0,_,rfl,rfl,by omega,⟨rfl⟩,HA5,HZ5,HB5⟩
 case round=>
  clear HA5 HZ5 HB5
  obtain⟨k,l,rfl,rfl,hk,HL,HA,HZ,HB⟩:=hrel
  by_cases hlt:k<b.length
  ·have c3:decide ((k:Int)<(b.length:Int))=true:=decide_eq_true (by omega)
   have c4:decide (k<b.length)=true:=decide_eq_true hlt
   have n0:(k:Int)<17:=by have:=HLN.out;omega
   have n1:k<17:=by have:=HLN.out;omega
   have HW:=Qz.k (show wrap64 ((k:Int)+1)=((k+1:Nat):Int)from by rw [agq (by omega) (by omega)];omega)
   obtain⟨ad,ea,hx⟩:=Kd.asz HR0.out (k:Int) (by omega) (by omega)
   subst ea
   rw [Int.toNat_natCast]at hx
   replace hx:=(HB.out.cell (World.block_lt_of_cell? w _ hx)).trans hx
   have HBK:=Qz.k (HBY.out k hlt)
   have HBS:=Qz.k (fun(h:k=16)=>H16.out (h ▸ hlt))
   have HXE:=Qz.k (show ∃ x,rd b (k:Int)=x from⟨_,rfl⟩)
   obtain⟨x,hxe⟩:=HXE.out
   rw [hxe]at hx HBK
   have HX16:=Qz.k (show k=16→x=1 from fun h=>by rw [←hxe];subst h;exact HBS.out rfl)
   clear hxe HXE HBS
   have hq5:8*k/26<5:=by omega
   have hcz:wr.cell? ⟨g1,8*k/26,none⟩=some (.int .u64 (rd l ((8*k/26:Nat):Int))):=HA.out.cell (by have:=HL.out;omega)
   have hfz:=HA.out.froz (8*k/26)
   generalize rd l ((8*k/26:Nat):Int)=y at *
   go_upto_region 9 with(fail)
   have HOV:=Qz.k (of_over n1 HBK.out.1 HBK.out.2 HX16.out)
   have HA7:=Qz.k (HA.out.put (8*k/26) (IntKind.u64.wrap (y+Go.bits .and .u64 (IntKind.u64.wrap (IntKind.u64.wrap x*2 ^ (8*k%26))) 67108863)))
   have HZ7:=Qz.k (HZ.out.far (p:=⟨g1,8*k/26,none⟩) (Ne.symm NEg1g2.out) (.int .u64 (IntKind.u64.wrap (y+Go.bits .and .u64 (IntKind.u64.wrap (IntKind.u64.wrap x*2 ^ (8*k%26))) 67108863))))
   have HB7:=Qz.k (adq (j:=8*k/26) (v := .int .u64 (IntKind.u64.wrap (y+Go.bits .and .u64 (IntKind.u64.wrap (IntKind.u64.wrap x*2 ^ (8*k%26))) 67108863))) HB.out GEg1.out)
   have HL7:=Qz.k (show(l.set (8*k/26) (IntKind.u64.wrap (y+Go.bits .and .u64 (IntKind.u64.wrap (IntKind.u64.wrap x*2 ^ (8*k%26))) 67108863))).length=5 from by rw [List.length_set,HL.out])
   generalize wr.setCell ⟨g1,8*k/26,none⟩ (.int .u64 (IntKind.u64.wrap (y+Go.bits .and .u64 (IntKind.u64.wrap (IntKind.u64.wrap x*2 ^ (8*k%26))) 67108863)))=wb at *
   generalize l.set (8*k/26) (IntKind.u64.wrap (y+Go.bits .and .u64 (IntKind.u64.wrap (IntKind.u64.wrap x*2 ^ (8*k%26))) 67108863))=l2 at *
   generalize IntKind.u64.wrap (IntKind.u64.wrap x*2 ^ (8*k%26))=v at *
   clear hcz hfz HA HZ HB
   by_cases hov:0<v/67108864
   ·have c7:decide (0<v/67108864)=true:=decide_eq_true hov
    have hq4:8*k/26+1<5:=HOV.out hov
    have hcz:wb.cell? ⟨g1,8*k/26+1,none⟩=some (.int .u64 (rd l2 ((8*k/26+1:Nat):Int))):=HA7.out.cell (by have:=HL7.out;omega)
    have hfz:=HA7.out.froz (8*k/26+1)
    generalize rd l2 ((8*k/26+1:Nat):Int)=z at *
    go_wp2
    go_roundg (b.length-(k+1))
    case measure=>exact(by have:=HLN.out;omega)
    case rel=>
     (try rw [HW.out])
     exact⟨k+1,_,rfl,rfl,hlt,⟨by rw [List.length_set,HL7.out]⟩,⟨HA7.out.put _ _⟩,⟨HZ7.out.far (Ne.symm NEg1g2.out) _⟩,⟨adq HB7.out GEg1.out⟩⟩
   ·have c7:decide (0<v/67108864)=false:=decide_eq_false hov
    go_wp2
    go_roundg (b.length-(k+1))
    case measure=>exact(by have:=HLN.out;omega)
    case rel=>
     (try rw [HW.out])
     exact⟨k+1,_,rfl,rfl,hlt,HL7,HA7,HZ7,HB7⟩
  ·have c3:decide ((k:Int)<(b.length:Int))=false:=decide_eq_false (by omega)
   have c4:decide (k<b.length)=false:=decide_eq_false hlt
   go_wp2_with (first
    |(refine ayk 216 (.tmp 3) rfl rfl rfl HA.out Tryz.underlying216 (amk l HL.out) ?_)
    |(refine arq (g:=g2) (l':=l) 216 (.tmp 2) (.tmp 44) rfl rfl rfl rfl rfl HZ.out (amk l HL.out) (by rw [HL.out];rfl) ?_))
   have HF:=Qz.k (Arr.row HZ.out l)
   refine bodyPost_ret (v := .agg (arrV .u64 l)) ?_ rfl ⟨l,rfl,HL.out,?_⟩
   ·exact Arr.result rfl _ HF.out rfl Tryz.underlying216 (amk l HL.out)
   ·exact anz HB.out GEg2.out
set_option maxHeartbeats 2000000 in
theorem poly_num_bytes.calls (n:List Int)(hn:n.length=5)(w:World) :
  Calls Tryz.prog 210 #[.agg (arrV .u64 n)] w fun e w'=>∃ (v0_:Value) (r:List Int),e=.returned v0_∧r.length=16∧Kd.R (Kd.int .u8) 5 w' w.heap.size (fun _=>True) v0_ r∧Below w.heap.size w w':=by
 have HN:=Qz.k hn
 clear hn
 go_enter Tryz.func210,Tryz.ntmps210
 go_wp2_with (first
  |((with_reducible refine ahk (N:=1) rfl ?_);refine aik ?hg (N:=1) ?hd (cs:=arrV .u64 (n)) (t:=216) ?hr ?_;(case hd=>rfl);(case hg=>rfl);(case hr=>first|(go_simp;done)|(go_simp;rfl));intro g1 hg w4 hbox hb;have HA4:=Qz.k (show Arr w4 g1 216 .u64 (n)from hbox);have GEg1:=Qz.k (show w.heap.size≤g1 from by rw [hg];exact Nat.le_refl _);have HB4:=Qz.k (hb);clear hbox hb hg )
  |(refine ayk 216 (.tmp 1) rfl rfl rfl HA4.out Tryz.underlying216 (amk n HN.out) ?_))
 refine(poly_num_up.calls n HN.out _).mono ?_
 rintro e w5 ⟨l,rfl,hl,hb⟩
 have HL:=Qz.k hl
 have HB5:=Qz.k (aaz HB4.out hb)
 have HA5:=Qz.k (Arr.below HA4.out hb)
 clear hl hb HA4 HB4
 go_upto_region 2 with(first
  |(refine arq (g:=g1) (l':=l) 216 (.tmp 1) (.tmp 8) rfl rfl rfl rfl rfl HA5.out (amk l HL.out) (by rw [HL.out,HN.out]) ?_))
 have HA6:=Qz.k (Arr.row HA5.out l)
 have HB6:=Qz.k (anz (c:=arrV .u64 l) HB5.out GEg1.out)
 clear HA5 HB5
 generalize w5.setRow g1 (arrV .u64 l)=w6 at *
 go_upto_region 3 with(first
  |((with_reducible refine ahk (N:=9) rfl ?_);refine Kd.bSq (Kd.int .u8) (w0:=w6) w6.heap.size 5 rfl (N:=9) rfl 27 _ _ rfl 16 rfl rfl Tryz.underlying27 (.int .u8 0) 1 info5 rfl (by decide) (by decide) 0 (ok:=fun _=>True) (okp:=fun _=>True) rfl (fun _ h=>h) trivial (by decide) (by decide) (Below.refl _ _) (Nat.le_refl _) ?_;intro v3 w7 ho hb hg_ hnew_;clear hg_ hnew_;rw [show(16:Int).toNat=16 from rfl]at ho;obtain⟨g2,q2,e2,gb,gl,gc⟩:=Kd.bjz ho (by decide);subst e2;clear gc gl;have NE2:=Qz.k (show g1≠g2 from by have:=HA6.out.lt;omega);have GE2:=Qz.k (show w.heap.size≤g2 from Nat.le_trans HB6.out.size gb);have HO7:=Qz.k (Kd.aiq ho HB6.out.size);have HB7:=Qz.k (aaz HB6.out hb);have HA7:=Qz.k (Arr.below HA6.out hb);clear ho hb HB6 HA6 gb))
 rw [List.length_replicate]at HO7
 go_wp2
 go_loopg [4,5,6,12] 16 (fun kq v4 v5 v6 v12 W'=>∃ (k:Nat) (out:List Int),v12=.int .i64 (k:Int)∧kq=16-k∧k≤16∧Qz (out.length=16)∧Qz (Kd.R (Kd.int .u8) 5 W' w.heap.size (fun _=>True) (.slice (some ⟨g2,0,none⟩) 16 q2) out)∧Qz (Arr W' g1 216 .u64 l)∧Qz (Below w.heap.size w W'))
 case atStart=>exact⟨0,_,rfl,rfl,by omega,⟨List.length_replicate⟩,HO7,HA7,HB7⟩
 case round=>
  clear HO7 HA7 HB7
  obtain⟨k,out,rfl,rfl,hk,HOL,HO,HA,HB⟩:=hrel
  by_cases hlt:k<16
  ·have c3:decide ((k:Int)<16)=true:=decide_eq_true (by omega)
   have c4:decide (k<16)=true:=decide_eq_true hlt
   have n0:(k:Int)<16:=by omega
   have HW:=Qz.k (show wrap64 ((k:Int)+1)=((k+1:Nat):Int)from by rw [agq (by omega) (by omega)];omega)
   obtain⟨q,hqe⟩:∃ q:Nat,8*k/26=q:=⟨_,rfl⟩
   have HQE:=Qz.k hqe
   have hq5:q<5:=by omega
   have hq6:(q:Int)<5:=by omega
   have hqi:8*(k:Int)/26=(q:Int):=by omega
   have hcx:wr.cell? ⟨g1,q,none⟩=some (.int .u64 (rd l (q:Int))):=HA.out.cell (by have:=HL.out;omega)
   generalize rd l (q:Int)=y at *
   obtain⟨hox,hof⟩:=Kd.aUq 0 HO.out (k:Int) (by omega) (by omega)
   simp only [Int.toNat_natCast]at hox hof
   generalize rdOf 0 out (k:Int)=oo at *
   by_cases hq:q+1<5
   ·have c7:decide ((q:Int)+1<5)=true:=decide_eq_true (by omega)
    have c8:decide (q+1<5)=true:=decide_eq_true hq
    have hcz:wr.cell? ⟨g1,q+1,none⟩=some (.int .u64 (rd l ((q+1:Nat):Int))):=HA.out.cell (by have:=HL.out;omega)
    generalize rd l ((q+1:Nat):Int)=z at *
    go_wp2
    go_roundg (16-(k+1))
    case measure=>exact(by omega)
    case rel=>
     (try rw [HW.out])
     refine⟨k+1,out.set (k:Int).toNat ?xx1,rfl,rfl,hlt,⟨?aa1⟩,⟨?bb1⟩,⟨HA.out.far NE2.out _⟩,⟨adq HB.out GE2.out⟩⟩
     case bb1=>exact Kd.bCq HO.out (k:Int) _
     case aa1=>rw [List.length_set,HOL.out]
   ·have c7:decide ((q:Int)+1<5)=false:=decide_eq_false (by omega)
    have c8:decide (q+1<5)=false:=decide_eq_false hq
    go_wp2
    go_roundg (16-(k+1))
    case measure=>exact(by omega)
    case rel=>
     (try rw [HW.out])
     refine⟨k+1,out.set (k:Int).toNat ?xx2,rfl,rfl,hlt,⟨?aa2⟩,⟨?bb2⟩,⟨HA.out.far NE2.out _⟩,⟨adq HB.out GE2.out⟩⟩
     case bb2=>exact Kd.bCq HO.out (k:Int) _
     case aa2=>rw [List.length_set,HOL.out]
  ·have c3:decide ((k:Int)<16)=false:=decide_eq_false (by omega)
   have c4:decide (k<16)=false:=decide_eq_false hlt
   go_wp2
   go_ret
   exact⟨_,_,rfl,HOL.out,HO.out,HB.out⟩
def By (l:List Int):Prop := ∀ x∈l,0≤x∧x<256
theorem By.at {l:List Int}(h:By l){k:Nat}(hk:k<l.length):0≤rd l (k:Int)∧rd l (k:Int)<256:=by
 rw [aUk,List.getD,List.getElem?_eq_getElem hk]
 exact h _ (List.getElem_mem hk)
theorem By.set {l:List Int}(h:By l){v:Int}(hv:0≤v∧v<256)(k:Nat):By (l.set k v):=fun x hx=>by
 rcases List.mem_or_eq_of_mem_set hx with h1|rfl
 ·exact h x h1
 ·exact hv
theorem By.zero (n:Nat):By (List.replicate n 0):=fun x hx=>by rw [List.eq_of_mem_replicate hx];decide
theorem By.app {a b:List Int}(h:By a)(g:By b):By (a++b):=fun x hx=>(List.mem_append.1 hx).elim (h x) (g x)
theorem By.take {a:List Int}(h:By a)(n:Nat):By (a.take n):=fun x hx=>h x (List.mem_of_mem_take hx)
theorem By.drop {a:List Int}(h:By a)(n:Nat):By (a.drop n):=fun x hx=>h x (List.mem_of_mem_drop hx)
theorem u8w_by (n:Int):0≤IntKind.u8.wrap n∧IntKind.u8.wrap n<256:=by rw [IntKind.wrap_u8];omega
theorem and8_by (a b:Int):0≤Go.bits .and .u8 a b∧Go.bits .and .u8 a b<256:=u8w_by _
theorem xor8_by (a b:Int):0≤Go.bits .xor .u8 a b∧Go.bits .xor .u8 a b<256:=u8w_by _
theorem Arr.copyHead {W:World}{g t:Nat}{l:List Int}(h:Arr W g t .u8 l){b:List Int}{ad:Addr}{c:Nat}(hb:Kd.C (Kd.int .u8) W (some ad) b.length b)(hl:l.length≤b.length)(ty:TypeId) :
  (Builtin.copy_ #[27,27] ty #[.slice (some ⟨g,0,none⟩) l.length l.length,.slice (some ad) b.length c]).run Tryz.prog W=.ok (goInt l.length) (W.setRow g (arrV .u8 (b.take l.length))):=by
 have hm:((b.take l.length).map (Value.int .u8)).length=l.length:=by rw [List.length_map,List.length_take,Nat.min_eq_left hl]
 have:=run_copy_row Tryz.prog W 27 27 ty 5 g 0 l.length l.length ad b.length c (arrV .u8 l) t ((b.take l.length).map (Value.int .u8)) Tryz.underlying27 (by kernel_rfl) h (by rw [hm];exact(Nat.min_eq_right hl).symm)
  (fun j v hv=>by
   rw [List.getElem?_map]at hv
   obtain⟨x,hx,rfl⟩:=Option.map_eq_some_iff.1 hv
   have hj:=(List.getElem?_eq_some_iff.1 hx).1
   rw [List.length_take,Nat.min_eq_left hl]at hj
   rw [List.getElem?_take_of_lt hj]at hx
   obtain⟨ad',e,hc⟩:=Kd.asz hb (j:Int) (by omega) (by omega)
   injection e with e
   subst e
   rw [Int.toNat_natCast]at hc
   rw [hc,aUk,List.getD_eq_getElem?_getD,hx]
   rfl)
  (by rw [hm,aYz];omega) (fun v hv=>by obtain⟨x,_,rfl⟩:=List.mem_map.1 hv;rfl)
 rw [this,hm]
 refine congrArg (fun c=>Result.ok (goInt l.length) (W.setRow g c)) ?_
 rw [List.take_zero,List.nil_append,Nat.zero_add,List.drop_of_length_le (by simp [arrV]),List.append_nil]
 rfl
set_option maxHeartbeats 2000000 in
theorem poly_clamped.calls (A0:Option Addr)(c0:Nat)(b:List Int)(w:World)(hr0:Kd.C (Kd.int .u8) w A0 b.length b)(hc0:b.length≤c0)(hn:b.length=32)(hb:By b) :
  Calls Tryz.prog 205 #[.slice A0 b.length c0] w fun e w'=>∃ m:List Int,e=.returned (.agg (arrV .u64 m))∧m.length=5∧Below w.heap.size w w':=by
 have HR0:=Qz.k hr0
 have HN:=Qz.k hn
 have HBY:=Qz.k hb
 obtain⟨ad,ea,_⟩:=Kd.asz HR0.out ((0:Nat):Int) (by omega) (by have:=HN.out;omega)
 subst ea
 clear hr0 hc0 hn hb
 go_enter Tryz.func205,Tryz.ntmps205
 go_upto_region 2 with(first
  |((with_reducible refine ahk (N:=2) rfl ?_);refine aik ?hg (N:=2) ?hd (cs:=arrV .u64 (List.replicate 5 0)) (t:=216) ?hr ?_;(case hd=>rfl);(case hg=>rfl);(case hr=>first|(go_simp;done)|(go_simp;rfl));intro g2 hg w4 hbox hb;have HZ4:=Qz.k (show Arr w4 g2 216 .u64 (List.replicate 5 0)from hbox);have GEg2:=Qz.k (show w.heap.size≤g2 from by rw [hg];exact Nat.le_refl _);have HB4:=Qz.k (hb);clear hbox hb hg )
  |((with_reducible refine ahk (N:=3) rfl ?_);refine aik ?hg (N:=3) ?hd (cs:=arrV .u8 (List.replicate 16 0)) (t:=258) ?hr ?_;(case hd=>rfl);(case hg=>rfl);(case hr=>first|(go_simp;done)|(go_simp;rfl));intro g1 hg w5 hbox hb;have HA5:=Qz.k (show Arr w5 g1 258 .u8 (List.replicate 16 0)from hbox);have GEg1:=Qz.k (show w.heap.size≤g1 from by rw [hg];exact HB4.out.size);have HB5:=Qz.k (aaz HB4.out hb);have NEg1g2:=Qz.k (show g1≠g2 from by rw [hg];exact Nat.ne_of_gt HZ4.out.lt);have HZ5:=Qz.k (Arr.below HZ4.out hb);clear hbox hb hg HB4 HZ4))
 have HCP:=Qz.k (Arr.copyHead HA5.out (b:=b) (ad:=ad) (c:=c0) (Kd.acz HR0.out HB5.out) (by rw [HN.out];decide) 3)
 rw [show(List.replicate 16 (0:Int)).length=16 from rfl]at HCP
 have HKL:=Qz.k (show(b.take 16).length=16 from by rw [List.length_take,HN.out];rfl)
 have HKB:=Qz.k (HBY.out.take 16)
 obtain⟨K0,hK0⟩:∃ K0,b.take 16=K0:=⟨_,rfl⟩
 rw [hK0]at HCP HKL HKB
 clear hK0
 have hcopy:=HCP.out
 go_upto_region 3 with(fail)
 have HA6:=Qz.k (Arr.row HA5.out K0)
 have HZ6:=Qz.k (Arr.aTz HZ5.out (Ne.symm NEg1g2.out) (arrV .u8 K0))
 have HB6:=Qz.k (anz (c:=arrV .u8 K0) HB5.out GEg1.out)
 clear hcopy HCP HA5 HZ5 HB5
 generalize w5.setRow g1 (arrV .u8 K0)=w6 at *
 go_wp2
 go_loopg [4] 4 (fun kq v4 W'=>∃ (i k:Nat) (l:List Int),v4=.int .i64 (k:Int)∧kq=4-i∧i≤4∧Qz (k=3+4*i∧l.length=16∧By l)∧Qz (Arr W' g1 258 .u8 l)∧Qz (Arr W' g2 216 .u64 (List.replicate 5 0))∧Qz (Below w.heap.size w W'))
 case atStart=>exact⟨0,3,_,rfl,rfl,by omega,⟨rfl,HKL.out,HKB.out⟩,HA6,HZ6,HB6⟩
 case round=>
  clear HA6 HZ6 HB6
  obtain⟨i,k,l,rfl,rfl,hi,HL,HA,HZ,HB⟩:=hrel
  by_cases hlt:k<16
  ·have c3:decide ((k:Int)<16)=true:=decide_eq_true (by omega)
   have c4:decide (k<16)=true:=decide_eq_true hlt
   have n0:(k:Int)<16:=by omega
   have HI:=Qz.k (show i<4 from by have:=HL.out.1;omega)
   have HW:=Qz.k (show wrap64 ((k:Int)+4)=((k+4:Nat):Int)from by rw [agq (by omega) (by omega)];omega)
   have hcx:wr.cell? ⟨g1,k,none⟩=some (.int .u8 (rd l (k:Int))):=HA.out.cell (by have:=HL.out.2.1;omega)
   have hfx:=HA.out.froz k
   generalize rd l (k:Int)=y at *
   go_wp2
   go_roundg (4-(i+1))
   case measure=>exact(by have:=HI.out;omega)
   case rel=>
    (try rw [HW.out])
    exact⟨i+1,k+4,l.set k (Go.bits .and .u8 y 15),rfl,rfl,HI.out,⟨by have:=HL.out.1;omega,by rw [List.length_set];exact HL.out.2.1,HL.out.2.2.set (and8_by _ _) k⟩,⟨HA.out.put k _⟩,⟨HZ.out.far (Ne.symm NEg1g2.out) _⟩,⟨adq HB.out GEg1.out⟩⟩
  ·have c3:decide ((k:Int)<16)=false:=decide_eq_false (by omega)
   have c4:decide (k<16)=false:=decide_eq_false hlt
   go_wp2
   have HA7:=HA
   have HZ7:=HZ
   have HB7:=HB
   have HL2:=Qz.k HL.out.2.1
   have HL3:=Qz.k HL.out.2.2
   clear HA HZ HB HL hlt c3 c4 hi
   go_loopg [5] 4 (fun kq v5 W'=>∃ (i k:Nat) (l:List Int),v5=.int .i64 (k:Int)∧kq=4-i∧i≤4∧Qz (k=4+4*i∧l.length=16∧By l)∧Qz (Arr W' g1 258 .u8 l)∧Qz (Arr W' g2 216 .u64 (List.replicate 5 0))∧Qz (Below w.heap.size w W'))
   case atStart=>exact⟨0,4,_,rfl,rfl,by omega,⟨rfl,HL2.out,HL3.out⟩,HA7,HZ7,HB7⟩
   case round=>
    clear HA7 HZ7 HB7
    obtain⟨i,k,l,rfl,rfl,hi,HL,HA,HZ,HB⟩:=hrel
    by_cases hlt:k<16
    ·have c3:decide ((k:Int)<16)=true:=decide_eq_true (by omega)
     have c4:decide (k<16)=true:=decide_eq_true hlt
     have n0:(k:Int)<16:=by omega
     have HI:=Qz.k (show i<4 from by have:=HL.out.1;omega)
     have HW:=Qz.k (show wrap64 ((k:Int)+4)=((k+4:Nat):Int)from by rw [agq (by omega) (by omega)];omega)
     have hcx:wr.cell? ⟨g1,k,none⟩=some (.int .u8 (rd l (k:Int))):=HA.out.cell (by have:=HL.out.2.1;omega)
     have hfx:=HA.out.froz k
     generalize rd l (k:Int)=y at *
     go_wp2
     go_roundg (4-(i+1))
     case measure=>exact(by have:=HI.out;omega)
     case rel=>
      (try rw [HW.out])
      exact⟨i+1,k+4,l.set k (Go.bits .and .u8 y 252),rfl,rfl,HI.out,⟨by have:=HL.out.1;omega,by rw [List.length_set];exact HL.out.2.1,HL.out.2.2.set (and8_by _ _) k⟩,⟨HA.out.put k _⟩,⟨HZ.out.far (Ne.symm NEg1g2.out) _⟩,⟨adq HB.out GEg1.out⟩⟩
    ·have c3:decide ((k:Int)<16)=false:=decide_eq_false (by omega)
     have c4:decide (k<16)=false:=decide_eq_false hlt
     have HOF:=Qz.k (poly_of.calls (some ⟨g1,0,none⟩) 16 l wr (Arr.C HA.out (by rw [HL.out.2.1];decide)) (by rw [HL.out.2.1];decide) (by rw [HL.out.2.1];decide) (fun k hk=>HL.out.2.2.at hk) (by rw [HL.out.2.1];exact fun h=>absurd h (by decide)))
     rw [HL.out.2.1]at HOF
     go_wp2_with (fail)
     refine HOF.out.mono ?_
     rintro e w8 ⟨r,rfl,hr,hb⟩
     have HR8:=Qz.k hr
     have HZ8:=Qz.k (Arr.below HZ.out hb)
     have HB8:=Qz.k (aaz HB.out hb)
     clear hr hb HOF HA HZ HB
     go_wp2_with (first
      |(refine arq (g:=g2) (l':=r) 216 (.tmp 2) (.tmp 28) rfl rfl rfl rfl rfl HZ8.out (amk r HR8.out) (by rw [HR8.out];rfl) ?_))
     have HF:=Qz.k (Arr.row HZ8.out r)
     refine bodyPost_ret (v := .agg (arrV .u64 r)) ?_ rfl ⟨r,rfl,HR8.out,?_⟩
     ·exact Arr.result rfl _ HF.out rfl Tryz.underlying216 (amk r HR8.out)
     ·exact anz HB8.out GEg2.out
theorem aKz : ∀ l:List Int,l.length=16→(Tryz.prog.info? 221).map (·.size)=some l.length:=fun l hl=>by rw [hl];kernel_rfl
theorem Arr.grown {W W1:World}{g t:Nat}{k:IntKind}{l:List Int}(h:Arr W g t k l){row:Option Nat}(hg:W.grownBy W1 row)(hne:some g≠row):Arr W1 g t k l:=ark h hg hne
theorem Arr.own_ne {W:World}{g t:Nat}{k:IntKind}{l:List Int}(h:Arr W g t k l){e base:Nat}{ok:Nat→Prop}{v:Value}{xs:List Int}{k':IntKind}(hr:Kd.R (Kd.int k') e W base ok v xs)(hne:t≠e):some g≠v.ownBlock:=by
 obtain⟨_,inner,hown,_⟩:=hr
 rcases hown.2 with⟨rfl,_⟩|⟨g',cap,cur,rfl,_,hg,_⟩
 ·simp [Value.ownBlock]
 ·intro hh
  have:g'=g:=by simpa [Value.ownBlock]using hh.symm
  subst this
  rw [show W.heap[g']? = _ from h]at hg
  injection hg with hg
  injection hg with _ hg
  exact hne hg
theorem index_arr {P:Program}{t e:TypeId}{n:Nat}{k ke:IntKind}{l:List Int}(hu:P.underlying t=some (.array n e))(hk:P.underlying e=some (.int ke))(hs:(P.info? e).map (·.size)=some 1)(hn:l.length=n){j:Nat}(hj:j<n)(W:World) :
  (Instr.index t (.agg (arrV k l)) (.int .i64 (j:Int))).run P W=.ok (.int k (rd l (j:Int))) W:=by
 obtain⟨i0,hi,hz⟩:=Option.map_eq_some_iff.1 hs
 have hx:(arrV k l)[j]? = some (.int k (rd l (j:Int))):=arrV_at k (by omega)
 have h0:(0:Int)≤(j:Int)∧(j:Int)<(n:Int):=by omega
 simp [Instr.index,asIntOf,Sem.run_bind,run_underlying hu,sizeOf,typeInfo,hi,hz,part,isAgg,run_underlying hk,Int.toNat_natCast,h0,hx,hj]
theorem Arr.bpk {W:World}{g t:Nat}{k:IntKind}{l:List Int}(h:Arr W g t k l){P:Program}{e:TypeId}{ke:IntKind}(hk:P.underlying e=some (.int ke))(hs:(P.info? e).map (·.size)=some 1){i:Nat}(hi:i<l.length)(v:Int) :
  (Instr.storeAt e (.pointer (some ⟨g,i,none⟩)) (.int k v)).run P W=.ok () (W.setCell ⟨g,i,none⟩ (.int k v)):=by
 have hc:=h.cell hi
 have hf:=h.froz i
 obtain⟨i0,hi0,hz⟩:=Option.map_eq_some_iff.1 hs
 have hsz:Sem.run P (sizeOf e) W=.ok 1 W:=by
  simp [sizeOf,typeInfo,Sem.run_bind,hi0,hz,Result.andThen]
 simp [Instr.storeAt,Instr.sureAddr,storeVar,Sem.run_bind,hsz,Result.andThen,hc,hf,go_sem]
theorem results_tmp4 {fn:Func}{s t u v:Tmp}(h:fn.results=#[.tmp s,.tmp t,.tmp u,.tmp v])(tmps:Array Value)(P:Program)(w:World):(results fn tmps).run P w=.ok (.tuple #[tmps.getD s undef,tmps.getD t undef,tmps.getD u undef,tmps.getD v undef]) w:=by
 simp [results,h]
theorem rl_some (x k:Int)(h0:0≤(Go.bits .and .u64 (IntKind.u64.wrap k) 31))(h1:0≤(IntKind.u64.wrap (32-(Go.bits .and .u64 (IntKind.u64.wrap k) 31)))):∃ r,bits_RotateLeft32.f x k=some r:=by
 unfold bits_RotateLeft32.f
 rw [if_pos h0,if_pos h1]
 exact⟨_,rfl⟩
theorem bEz (k:Int)(h0:0≤(Go.bits .and .u64 (IntKind.u64.wrap k) 31))(h1:0≤(IntKind.u64.wrap (32-(Go.bits .and .u64 (IntKind.u64.wrap k) 31))))(x:Int)(w:World) :
  Calls Tryz.prog 295 #[.int .u32 x,.int .i64 k] w fun e w'=>∃ r,e=.returned (.int .u32 r)∧Below w.heap.size w w':=by
 obtain⟨r,hr⟩:=rl_some x k h0 h1
 refine(bits_RotateLeft32.calls x k r w hr).mono ?_
 rintro e w' ⟨rfl,⟨n,rfl⟩⟩
 exact⟨r,rfl,adz (Below.refl _ _) n⟩
set_option maxHeartbeats 1000000 in
theorem chacha_Quarter_weak.calls (a b c d:Int)(w:World) :
  Calls Tryz.prog 264 #[.int .u32 a,.int .u32 b,.int .u32 c,.int .u32 d] w fun e w'=>∃ qa qb qc qd,e=.returned (.tuple #[.int .u32 qa,.int .u32 qb,.int .u32 qc,.int .u32 qd])∧Below w.heap.size w w':=by
 have H16:=Qz.k (bEz 16 (by decide) (by decide))
 have H12:=Qz.k (bEz 12 (by decide) (by decide))
 have H8:=Qz.k (bEz 8 (by decide) (by decide))
 have H7:=Qz.k (bEz 7 (by decide) (by decide))
 go_enter Tryz.func264,Tryz.ntmps264
 go_wp2_with (fail)
 refine(H16.out _ _).mono ?_
 rintro e w1 ⟨r1,rfl,hb⟩
 have HB1:=Qz.k hb
 clear hb
 go_wp2_with (fail)
 refine(H12.out _ _).mono ?_
 rintro e w2 ⟨r2,rfl,hb⟩
 have HB2:=Qz.k (aaz HB1.out hb)
 clear hb
 go_wp2_with (fail)
 refine(H8.out _ _).mono ?_
 rintro e w3 ⟨r3,rfl,hb⟩
 have HB3:=Qz.k (aaz HB2.out hb)
 clear hb
 go_wp2_with (fail)
 refine(H7.out _ _).mono ?_
 rintro e w4 ⟨r4,rfl,hb⟩
 have HB4:=Qz.k (aaz HB3.out hb)
 clear hb
 go_wp2
 (try simp only [Exit.inBlock,Exit.then])
 refine bodyPost_ret (results_tmp4 rfl _ _ _) rfl ?_
 exact⟨_,_,_,_,rfl,HB4.out⟩
set_option maxHeartbeats 2000000 in
theorem chacha_turn.calls (W0 W:World)(g i j k l:Nat)(m:List Int)(hm:m.length=16)(hi:i<16)(hj:j<16)(hk:k<16)(hl:l<16)(hA:Arr W g 221 .u32 m)(hB:Below W0.heap.size W0 W)(hg:W0.heap.size≤g) :
  Calls Tryz.prog 263 #[.int .i64 (i:Int),.int .i64 (j:Int),.int .i64 (k:Int),.int .i64 (l:Int),.pointer (some ⟨g,0,none⟩)] W fun e W'=>e=.returned (.tuple #[])∧(∃ m':List Int,m'.length=16∧Arr W' g 221 .u32 m')∧Below W0.heap.size W0 W'∧alk W W' g none:=by
 have HM:=Qz.k hm
 have HA:=Qz.k hA
 have HB:=Qz.k hB
 have HG:=Qz.k hg
 have HIN:=Qz.k (show i<m.length∧j<m.length∧k<m.length∧l<m.length from by omega)
 have hci:W.cell? ⟨g,i,none⟩=some (.int .u32 (rd m (i:Int))):=hA.cell HIN.out.1
 have hcj:W.cell? ⟨g,j,none⟩=some (.int .u32 (rd m (j:Int))):=hA.cell HIN.out.2.1
 have hck:W.cell? ⟨g,k,none⟩=some (.int .u32 (rd m (k:Int))):=hA.cell HIN.out.2.2.1
 have hcl:W.cell? ⟨g,l,none⟩=some (.int .u32 (rd m (l:Int))):=hA.cell HIN.out.2.2.2
 have HX:=Qz.k (show ∃ xi xj xk xl,rd m (i:Int)=xi∧rd m (j:Int)=xj∧rd m (k:Int)=xk∧rd m (l:Int)=xl from⟨_,_,_,_,rfl,rfl,rfl,rfl⟩)
 obtain⟨xi,xj,xk,xl,hX⟩:=HX.out
 rw [hX.1]at hci
 rw [hX.2.1]at hcj
 rw [hX.2.2.1]at hck
 rw [hX.2.2.2]at hcl
 clear HX
 have HX:=Qz.k hX
 have HQ:=Qz.k (fun w1=>chacha_Quarter_weak.calls xi xj xk xl w1)
 have n1:(i:Int)<16:=by omega
 have n2:(j:Int)<16:=by omega
 have n3:(k:Int)<16:=by omega
 have n4:(l:Int)<16:=by omega
 clear hX hm hA hB hg
 go_enter Tryz.func263,Tryz.ntmps263
 go_upto_region 0 with(fail)
 refine axq (n:=30) (S:=fun w'=>w'.cell? ⟨g,i,none⟩=some (.int .u32 xi)∧w'.cell? ⟨g,j,none⟩=some (.int .u32 xj)∧w'.cell? ⟨g,k,none⟩=some (.int .u32 xk)∧w'.cell? ⟨g,l,none⟩=some (.int .u32 xl)) (ds:=[23,25,27,29]) (bl 30 0) (by kernel_rfl) rfl rfl ⟨hci,hcj,hck,hcl⟩ (fun hHeld=>?_)
 refine pu_ 0 10 ?_ ?_ (bl 30 1) rfl rfl (by kernel_rfl) ?_ ?_ ?_
 rotate_left 2
 ·intro w';go_simp;with_reducible rfl
 ·simp only [Act.put,putA,putZ,putS,abq,abk];rfl
 refine pu_ 1 11 ?_ ?_ (bl 30 3) rfl rfl (by kernel_rfl) ?_ ?_ ?_
 rotate_left 2
 ·intro w';go_simp;with_reducible rfl
 ·simp only [Act.put,putA,putZ,putS,abq,abk];rfl
 refine pu_ 2 12 ?_ ?_ (bl 30 7) rfl rfl (by kernel_rfl) ?_ ?_ ?_
 rotate_left 2
 ·intro w';go_simp;with_reducible rfl
 ·simp only [Act.put,putA,putZ,putS,abq,abk];rfl
 refine pu_ 3 13 ?_ ?_ (bl 30 15) rfl rfl (by kernel_rfl) ?_ ?_ ?_
 rotate_left 2
 ·intro w';go_simp;with_reducible rfl
 ·simp only [Act.put,putA,putZ,putS,abq,abk];rfl
 refine pu_ 4 14 ?_ ?_ (bl 30 31) rfl rfl (by kernel_rfl) ?_ ?_ ?_
 rotate_left 2
 ·intro w';go_simp;with_reducible rfl
 ·simp only [Act.put,putA,putZ,putS,abq,abk];rfl
 refine pu_ 5 15 ?_ ?_ (bl 30 63) rfl rfl (by kernel_rfl) ?_ ?_ ?_
 rotate_left 2
 ·intro w';go_simp;with_reducible rfl
 ·simp only [Act.put,putA,putZ,putS,abq,abk];rfl
 refine pu_ 7 17 ?_ ?_ (bl 30 191) rfl rfl (by kernel_rfl) ?_ ?_ ?_
 rotate_left 2
 ·intro w';go_simp;with_reducible rfl
 ·simp only [Act.put,putA,putZ,putS,abq,abk];rfl
 refine pu_ 8 18 ?_ ?_ (bl 30 447) rfl rfl (by kernel_rfl) ?_ ?_ ?_
 rotate_left 2
 ·intro w';go_simp;with_reducible rfl
 ·simp only [Act.put,putA,putZ,putS,abq,abk];rfl
 refine pu_ 10 20 ?_ ?_ (bl 30 1471) rfl rfl (by kernel_rfl) ?_ ?_ ?_
 rotate_left 2
 ·intro w';go_simp;with_reducible rfl
 ·simp only [Act.put,putA,putZ,putS,abq,abk];rfl
 refine pu_ 11 21 ?_ ?_ (bl 30 3519) rfl rfl (by kernel_rfl) ?_ ?_ ?_
 rotate_left 2
 ·intro w';go_simp;with_reducible rfl
 ·simp only [Act.put,putA,putZ,putS,abq,abk];rfl
 refine pu_ 13 23 ?_ ?_ (bl 30 11711) rfl rfl (by kernel_rfl) ?_ ?_ ?_
 rotate_left 2
 ·intro w';go_simp;with_reducible rfl
 ·simp only [Act.put,putA,putZ,putS,abq,abk];rfl
 refine pu_ 14 24 ?_ ?_ (bl 30 28095) rfl rfl (by kernel_rfl) ?_ ?_ ?_
 rotate_left 2
 ·intro w';go_simp;with_reducible rfl
 ·simp only [Act.put,putA,putZ,putS,abq,abk];rfl
 refine tk_ 6 16 ?_ ?_ (bl 30 28159) rfl rfl (by kernel_rfl) hHeld ?_ ?_ ?_
 rotate_left 2
 ·rintro w' ⟨s0,s1,s2,s3⟩;go_simp;with_reducible rfl
 ·simp only [Act.put,putA,putZ,putS,abq,abk];rfl
 refine tk_ 9 19 ?_ ?_ (bl 30 28671) rfl rfl (by kernel_rfl) hHeld ?_ ?_ ?_
 rotate_left 2
 ·rintro w' ⟨s0,s1,s2,s3⟩;go_simp;with_reducible rfl
 ·simp only [Act.put,putA,putZ,putS,abq,abk];rfl
 refine tk_ 12 22 ?_ ?_ (bl 30 32767) rfl rfl (by kernel_rfl) hHeld ?_ ?_ ?_
 rotate_left 2
 ·rintro w' ⟨s0,s1,s2,s3⟩;go_simp;with_reducible rfl
 ·simp only [Act.put,putA,putZ,putS,abq,abk];rfl
 refine tk_ 15 25 ?_ ?_ (bl 30 65535) rfl rfl (by kernel_rfl) hHeld ?_ ?_ ?_
 rotate_left 2
 ·rintro w' ⟨s0,s1,s2,s3⟩;go_simp;with_reducible rfl
 ·simp only [Act.put,putA,putZ,putS,abq,abk];rfl
 refine one_ (i:=16) (N:=some 26) (bl 30 131071) rfl rfl (by kernel_rfl) (by decide) (fun K hK=>?_)
 refine aFq Tryz.func264 (by kernel_rfl) rfl #[.int .u32 xi,.int .u32 xj,.int .u32 xk,.int .u32 xl] (by rfl) rfl rfl (by simp only [List.map_toArray,List.map_cons,List.map_nil];first|done|rfl) ?_
 with_reducible refine(HQ.out _).mono ?_
 rintro e w3 ⟨qa,qb,qc,qd,rfl,hb⟩
 refine⟨_,rfl,?_⟩
 have HA3:=Qz.k (Arr.below HA.out.drew hb)
 have HB3:=Qz.k (aaz (aez HB.out) hb)
 have HK3:=Qz.k (azz (show alk W W.drew g none from buz _ _) (byk hb))
 clear hb
 refine hK.out _ _ ⟨(HA3.out.cell HIN.out.1).trans (by rw [HX.out.1]),(HA3.out.cell HIN.out.2.1).trans (by rw [HX.out.2.1]),(HA3.out.cell HIN.out.2.2.1).trans (by rw [HX.out.2.2.1]),(HA3.out.cell HIN.out.2.2.2).trans (by rw [HX.out.2.2.2])⟩ (fun hHeld=>?_)
 clear hK K
 refine aHz (a':=?_) ?_ ?_
 rotate_left
 ·show Act.put _ (some 26) _=_
  simp only [Act.put,putA,putZ,putS,abq,abk]
  rfl
 refine pu_ 17 9 ?_ ?_ (bl 30 262143) rfl rfl (by kernel_rfl) ?_ ?_ ?_
 rotate_left 2
 ·intro w';go_simp;with_reducible rfl
 ·simp only [Act.put,putA,putZ,putS,abq,abk];rfl
 refine pu_ 18 27 ?_ ?_ (bl 30 524287) rfl rfl (by kernel_rfl) ?_ ?_ ?_
 rotate_left 2
 ·intro w';go_simp;with_reducible rfl
 ·simp only [Act.put,putA,putZ,putS,abq,abk];rfl
 refine pu_ 19 28 ?_ ?_ (bl 30 1048575) rfl rfl (by kernel_rfl) ?_ ?_ ?_
 rotate_left 2
 ·intro w';go_simp;with_reducible rfl
 ·simp only [Act.put,putA,putZ,putS,abq,abk];rfl
 refine pu_ 20 29 ?_ ?_ (bl 30 2097151) rfl rfl (by kernel_rfl) ?_ ?_ ?_
 rotate_left 2
 ·intro w';go_simp;with_reducible rfl
 ·simp only [Act.put,putA,putZ,putS,abq,abk];rfl
 refine pu_ 21 30 ?_ ?_ (bl 30 4194303) rfl rfl (by kernel_rfl) ?_ ?_ ?_
 rotate_left 2
 ·intro w';go_simp;with_reducible rfl
 ·simp only [Act.put,putA,putZ,putS,abq,abk];rfl
 refine pu_ 22 31 ?_ ?_ (bl 30 8388607) rfl rfl (by kernel_rfl) ?_ ?_ ?_
 rotate_left 2
 ·intro w';go_simp;with_reducible rfl
 ·simp only [Act.put,putA,putZ,putS,abq,abk];rfl
 refine bdz (i:=23) (N:=none) (bl 30 16777215) rfl rfl (by kernel_rfl) (by decide) (fun K hK=>?_)
 refine bbk (w1:=w3.setCell ⟨g,i,none⟩ (.int .u32 qa)) (by rfl) rfl ?_ ?_
 ·exact aSq 149 (.tmp 31) (.tmp 27) (.pointer (some ⟨g,i,none⟩)) (.int .u32 qa) rfl rfl rfl (HA3.out.bpk Tryz.underlying149 (by kernel_rfl) (by(try simp only [List.length_set]);exact HIN.out.1) _)
 have HA4:=Qz.k (HA3.out.put i qa)
 have HB4:=Qz.k (adq (j:=i) (v := .int .u32 qa) HB3.out HG.out)
 have HK4:=Qz.k (azz HK3.out (a0z _ g i (.int .u32 qa)))
 generalize w3.setCell ⟨g,i,none⟩ (.int .u32 qa)=w4 at *
 refine hK.out _ _ ?_
 clear hK K
 refine pu_ 24 32 ?_ ?_ (bl 30 33554431) rfl rfl (by kernel_rfl) ?_ ?_ ?_
 rotate_left 2
 ·intro w';go_simp;with_reducible rfl
 ·simp only [Act.put,putA,putZ,putS,abq,abk];rfl
 refine bdz (i:=25) (N:=none) (bl 30 67108863) rfl rfl (by kernel_rfl) (by decide) (fun K hK=>?_)
 refine bbk (w1:=w4.setCell ⟨g,j,none⟩ (.int .u32 qb)) (by rfl) rfl ?_ ?_
 ·exact aSq 149 (.tmp 32) (.tmp 28) (.pointer (some ⟨g,j,none⟩)) (.int .u32 qb) rfl rfl rfl (HA4.out.bpk Tryz.underlying149 (by kernel_rfl) (by(try simp only [List.length_set]);exact HIN.out.2.1) _)
 have HA5:=Qz.k (HA4.out.put j qb)
 have HB5:=Qz.k (adq (j:=j) (v := .int .u32 qb) HB4.out HG.out)
 have HK5:=Qz.k (azz HK4.out (a0z _ g j (.int .u32 qb)))
 generalize w4.setCell ⟨g,j,none⟩ (.int .u32 qb)=w5 at *
 refine hK.out _ _ ?_
 clear hK K
 refine pu_ 26 33 ?_ ?_ (bl 30 134217727) rfl rfl (by kernel_rfl) ?_ ?_ ?_
 rotate_left 2
 ·intro w';go_simp;with_reducible rfl
 ·simp only [Act.put,putA,putZ,putS,abq,abk];rfl
 refine bdz (i:=27) (N:=none) (bl 30 268435455) rfl rfl (by kernel_rfl) (by decide) (fun K hK=>?_)
 refine bbk (w1:=w5.setCell ⟨g,k,none⟩ (.int .u32 qc)) (by rfl) rfl ?_ ?_
 ·exact aSq 149 (.tmp 33) (.tmp 29) (.pointer (some ⟨g,k,none⟩)) (.int .u32 qc) rfl rfl rfl (HA5.out.bpk Tryz.underlying149 (by kernel_rfl) (by(try simp only [List.length_set]);exact HIN.out.2.2.1) _)
 have HA6:=Qz.k (HA5.out.put k qc)
 have HB6:=Qz.k (adq (j:=k) (v := .int .u32 qc) HB5.out HG.out)
 have HK6:=Qz.k (azz HK5.out (a0z _ g k (.int .u32 qc)))
 generalize w5.setCell ⟨g,k,none⟩ (.int .u32 qc)=w6 at *
 refine hK.out _ _ ?_
 clear hK K
 refine pu_ 28 34 ?_ ?_ (bl 30 536870911) rfl rfl (by kernel_rfl) ?_ ?_ ?_
 rotate_left 2
 ·intro w';go_simp;with_reducible rfl
 ·simp only [Act.put,putA,putZ,putS,abq,abk];rfl
 refine bdz (i:=29) (N:=none) (bl 30 1073741823) rfl rfl (by kernel_rfl) (by decide) (fun K hK=>?_)
 refine bbk (w1:=w6.setCell ⟨g,l,none⟩ (.int .u32 qd)) (by rfl) rfl ?_ ?_
 ·exact aSq 149 (.tmp 34) (.tmp 30) (.pointer (some ⟨g,l,none⟩)) (.int .u32 qd) rfl rfl rfl (HA6.out.bpk Tryz.underlying149 (by kernel_rfl) (by(try simp only [List.length_set]);exact HIN.out.2.2.2) _)
 have HA7:=Qz.k (HA6.out.put l qd)
 have HB7:=Qz.k (adq (j:=l) (v := .int .u32 qd) HB6.out HG.out)
 have HK7:=Qz.k (azz HK6.out (a0z _ g l (.int .u32 qd)))
 generalize w6.setCell ⟨g,l,none⟩ (.int .u32 qd)=w7 at *
 refine hK.out _ _ ?_
 clear hK K
 refine aPz (by kernel_rfl) ?_
 go_wp2
 go_end0
 exact⟨rfl,⟨_,by simp only [List.length_set];exact HM.out,HA7.out⟩,HB7.out,HK7.out⟩
set_option maxHeartbeats 2000000 in
theorem chacha_lay.calls (W0 w:World)(g at_:Nat)(A0:Option Addr)(c0:Nat)(b:List Int)(m:List Int)(hm:m.length=16)(hat:at_+b.length/4≤16)(hb4:4*(b.length/4)=b.length)(hr0:Kd.C (Kd.int .u8) W0 A0 b.length b)(hA:Arr w g 221 .u32 m)(hB:Below W0.heap.size W0 w)(hg:W0.heap.size≤g) :
  Calls Tryz.prog 262 #[.int .i64 (at_:Int),.slice A0 b.length c0,.pointer (some ⟨g,0,none⟩)] w fun e W'=>e=.returned (.tuple #[])∧(∃ m':List Int,m'.length=16∧Arr W' g 221 .u32 m')∧Below W0.heap.size W0 W'∧alk w W' g none:=by
 have HM:=Qz.k hm
 have HR0:=Qz.k hr0
 have HA0:=Qz.k hA
 have HB0:=Qz.k hB
 have HG:=Qz.k hg
 have HAT:=Qz.k hat
 have HB4:=Qz.k hb4
 clear hm hr0 hA hB hg hat hb4
 go_enter Tryz.func262,Tryz.ntmps262
 go_wp2
 go_loopg [5,6,9] b.length (fun kq v5 v6 v9 W'=>∃ (k:Nat) (l:List Int),v9=.int .i64 (k:Int)∧kq=b.length-k∧k≤b.length∧Qz (l.length=16)∧Qz (Arr W' g 221 .u32 l)∧Qz (Below W0.heap.size W0 W')∧Qz (alk w W' g none))
 case atStart=>exact⟨0,m,rfl,rfl,by omega,HM,HA0,HB0,⟨buz _ _⟩⟩
 case round=>
  clear HA0 HB0
  obtain⟨k,l,rfl,rfl,hk,HL,HA,HB,HK⟩:=hrel
  by_cases hlt:k<b.length
  ·have c3:decide ((k:Int)<(b.length:Int))=true:=decide_eq_true (by omega)
   have c4:decide (k<b.length)=true:=decide_eq_true hlt
   have n0:(k:Int)<68:=by have:=HAT.out;omega
   have HW:=Qz.k (show wrap64 ((k:Int)+1)=((k+1:Nat):Int)from by rw [agq (by omega) (by omega)];omega)
   obtain⟨ad,ea,hx⟩:=Kd.asz HR0.out (k:Int) (by omega) (by omega)
   subst ea
   rw [Int.toNat_natCast]at hx
   replace hx:=(HB.out.cell (World.block_lt_of_cell? W0 _ hx)).trans hx
   generalize rd b (k:Int)=x at *
   obtain⟨q,hqe⟩:∃ q:Nat,k/4=q:=⟨_,rfl⟩
   have hqi:(k:Int)/4=(q:Int):=by omega
   obtain⟨p,hp⟩:∃ p:Nat,at_+q=p:=⟨_,rfl⟩
   have hq1:p<16:=by have:=HAT.out;have:=HB4.out;omega
   have hq2:(p:Int)<16:=by omega
   have hq6:wrap64 ((k:Int).tdiv 4)=(q:Int):=by rw [Int.tdiv_eq_ediv_of_nonneg (by omega),hqi,agq (by omega) (by omega)]
   have hq7:wrap64 (q:Int)=(q:Int):=agq (by omega) (by omega)
   have hq8:wrap64 ((at_:Int)+(q:Int))=(p:Int):=by rw [agq (by omega) (by omega)];omega
   have hq9:(0:Int)≤(p:Int):=by omega
   obtain⟨sh,hsh⟩:∃ sh:Nat,8*(k%4)=sh:=⟨_,rfl⟩
   have hs1:wrap64 (8*(k:Int).tmod 4)=(sh:Int):=by rw [Int.tmod_eq_emod_of_nonneg (by omega),agq (by omega) (by omega)];omega
   have hs2:(0:Int)≤(sh:Int):=by omega
   have hs3:¬ ((sh:Int)<0):=by omega
   have hcy:wr.cell? ⟨g,p,none⟩=some (.int .u32 (rd l (p:Int))):=HA.out.cell (by have:=HL.out;omega)
   have hfy:=HA.out.froz p
   generalize rd l (p:Int)=y at *
   clear hsh hp
   clear hqe
   go_upto_region 3 with(fail)
   refine axq (n:=15) (S:=fun w'=>w'.cell? ⟨g,p,none⟩=some (.int .u32 y)) (ds:=[14]) (bl 15 0) (by kernel_rfl) rfl rfl (hcy) (fun hHeld=>?_)
   refine pu_ 0 14 ?_ ?_ (bl 15 1) rfl rfl (by kernel_rfl) ?_ ?_ ?_
   rotate_left 2
   ·intro w';go_simp;with_reducible rfl
   ·simp only [Act.put,putA,putZ,putS,abq,abk];rfl
   refine pu_ 1 15 ?_ ?_ (bl 15 3) rfl rfl (by kernel_rfl) ?_ ?_ ?_
   rotate_left 2
   ·intro w';go_simp;with_reducible rfl
   ·simp only [Act.put,putA,putZ,putS,abq,abk];rfl
   refine pu_ 2 16 ?_ ?_ (bl 15 7) rfl rfl (by kernel_rfl) ?_ ?_ ?_
   rotate_left 2
   ·intro w';go_simp;with_reducible rfl
   ·simp only [Act.put,putA,putZ,putS,abq,abk];rfl
   refine pu_ 3 17 ?_ ?_ (bl 15 15) rfl rfl (by kernel_rfl) ?_ ?_ ?_
   rotate_left 2
   ·intro w';go_simp;with_reducible rfl
   ·simp only [Act.put,putA,putZ,putS,abq,abk];rfl
   refine pu_ 4 18 ?_ ?_ (bl 15 31) rfl rfl (by kernel_rfl) ?_ ?_ ?_
   rotate_left 2
   ·intro w';go_simp;with_reducible rfl
   ·simp only [Act.put,putA,putZ,putS,abq,abk];rfl
   refine pu_ 6 20 ?_ ?_ (bl 15 95) rfl rfl (by kernel_rfl) ?_ ?_ ?_
   rotate_left 2
   ·intro w';go_simp;with_reducible rfl
   ·simp only [Act.put,putA,putZ,putS,abq,abk];rfl
   refine pu_ 7 21 ?_ ?_ (bl 15 223) rfl rfl (by kernel_rfl) ?_ ?_ ?_
   rotate_left 2
   ·intro w';go_simp;with_reducible rfl
   ·simp only [Act.put,putA,putZ,putS,abq,abk];rfl
   refine pu_ 8 22 ?_ ?_ (bl 15 479) rfl rfl (by kernel_rfl) ?_ ?_ ?_
   rotate_left 2
   ·intro w';go_simp;with_reducible rfl
   ·simp only [Act.put,putA,putZ,putS,abq,abk];rfl
   refine pu_ 9 23 ?_ ?_ (bl 15 991) rfl rfl (by kernel_rfl) ?_ ?_ ?_
   rotate_left 2
   ·intro w';go_simp;with_reducible rfl
   ·simp only [Act.put,putA,putZ,putS,abq,abk];rfl
   refine pu_ 10 24 ?_ ?_ (bl 15 2015) rfl rfl (by kernel_rfl) ?_ ?_ ?_
   rotate_left 2
   ·intro w';go_simp;with_reducible rfl
   ·simp only [Act.put,putA,putZ,putS,abq,abk];rfl
   refine pu_ 11 25 ?_ ?_ (bl 15 4063) rfl rfl (by kernel_rfl) ?_ ?_ ?_
   rotate_left 2
   ·intro w';go_simp;with_reducible rfl
   ·simp only [Act.put,putA,putZ,putS,abq,abk];rfl
   refine tk_ 5 19 ?_ ?_ (bl 15 4095) rfl rfl (by kernel_rfl) hHeld ?_ ?_ ?_
   rotate_left 2
   ·intro w' s0;go_simp;with_reducible rfl
   ·simp only [Act.put,putA,putZ,putS,abq,abk];rfl
   refine pu_ 12 26 ?_ ?_ (bl 15 8191) rfl rfl (by kernel_rfl) ?_ ?_ ?_
   rotate_left 2
   ·intro w';go_simp;with_reducible rfl
   ·simp only [Act.put,putA,putZ,putS,abq,abk];rfl
   refine pu_ 13 27 ?_ ?_ (bl 15 16383) rfl rfl (by kernel_rfl) ?_ ?_ ?_
   rotate_left 2
   ·intro w';go_simp;with_reducible rfl
   ·simp only [Act.put,putA,putZ,putS,abq,abk];rfl
   refine bdz (i:=14) (N:=none) (bl 15 32767) rfl rfl (by kernel_rfl) (by decide) (fun K hK=>?_)
   refine bbk (w1:=?_) (by rfl) rfl ?_ ?_
   rotate_left
   ·go_simp
    rfl
   refine hK.out _ _ ?_
   clear hK K
   refine aPz (by kernel_rfl) ?_
   go_wp2
   go_roundg (b.length-(k+1))
   case measure=>exact(by omega)
   case rel=>
    (try rw [HW.out])
    refine⟨k+1,l.set p ?xx1,rfl,rfl,by omega,⟨?aa1⟩,⟨?bb1⟩,⟨?cc1⟩,⟨?dd1⟩⟩
    case bb1=>exact(Arr.drew HA.out).put p _
    case aa1=>rw [List.length_set,HL.out]
    case cc1=>exact adq (aez HB.out) HG.out
    case dd1=>exact azz (azz HK.out (show alk wr wr.drew g none from buz _ _)) (a0z _ g _ _)
  ·have c3:decide ((k:Int)<(b.length:Int))=false:=decide_eq_false (by omega)
   have c4:decide (k<b.length)=false:=decide_eq_false hlt
   go_wp2
   go_end0
   exact⟨rfl,⟨l,HL.out,HA.out⟩,HB.out,HK.out⟩
theorem Arr.keep {W W1:World}{g g' t:Nat}{k:IntKind}{l:List Int}(h:Arr W g t k l)(hk:alk W W1 g' none)(hne:g≠g'):Arr W1 g t k l:=(hk.2 g h.lt hne (by simp)).trans h
theorem chacha_turnI.calls (W0 W:World)(g:Nat)(i j k l:Int)(m:List Int)(hm:m.length=16)(hi:0≤i∧i<16)(hj:0≤j∧j<16)(hk:0≤k∧k<16)(hl:0≤l∧l<16)(hA:Arr W g 221 .u32 m)(hB:Below W0.heap.size W0 W)(hg:W0.heap.size≤g) :
  Calls Tryz.prog 263 #[.int .i64 i,.int .i64 j,.int .i64 k,.int .i64 l,.pointer (some ⟨g,0,none⟩)] W fun e W'=>e=.returned (.tuple #[])∧(∃ m':List Int,m'.length=16∧Arr W' g 221 .u32 m')∧Below W0.heap.size W0 W'∧alk W W' g none:=by
 obtain⟨i,rfl⟩:=Int.eq_ofNat_of_zero_le hi.1
 obtain⟨j,rfl⟩:=Int.eq_ofNat_of_zero_le hj.1
 obtain⟨k,rfl⟩:=Int.eq_ofNat_of_zero_le hk.1
 obtain⟨l,rfl⟩:=Int.eq_ofNat_of_zero_le hl.1
 exact chacha_turn.calls W0 W g i j k l m hm (by omega) (by omega) (by omega) (by omega) hA hB hg
set_option maxHeartbeats 2000000 in
theorem chacha_first.calls (A0:Option Addr)(c0:Nat)(key:List Int)(cnt:Int)(A1:Option Addr)(c1:Nat)(nonce:List Int)(w:World)(hr0:Kd.C (Kd.int .u8) w A0 key.length key)(hk:key.length=32)(hr1:Kd.C (Kd.int .u8) w A1 nonce.length nonce)(hn:nonce.length=12) :
  Calls Tryz.prog 211 #[.slice A0 key.length c0,.int .u32 cnt,.slice A1 nonce.length c1] w fun e w'=>∃ m:List Int,e=.returned (.agg (arrV .u32 m))∧m.length=16∧Below w.heap.size w w':=by
 have HL1:=Qz.k (fun(w1:World) (g:Nat) (m:List Int) hm hA hB hg=>chacha_lay.calls w w1 g 4 A0 c0 key m hm (by rw [hk];decide) (by rw [hk]) hr0 hA hB hg)
 have HL2:=Qz.k (fun(w1:World) (g:Nat) (m:List Int) hm hA hB hg=>chacha_lay.calls w w1 g 13 A1 c1 nonce m hm (by rw [hn];decide) (by rw [hn]) hr1 hA hB hg)
 clear hr0 hk hr1 hn
 go_enter Tryz.func211,Tryz.ntmps211
 go_wp2_with (first
  |((with_reducible refine ahk (N:=6) rfl ?_);refine aik ?hg (N:=6) ?hd (cs:=arrV .u32 (List.replicate 16 0)) (t:=221) ?hr ?_;(case hd=>rfl);(case hg=>rfl);(case hr=>first|(go_simp;done)|(go_simp;rfl));intro g6 hg w4 hbox hb;have HZ4:=Qz.k (show Arr w4 g6 221 .u32 (List.replicate 16 0)from hbox);have GEg6:=Qz.k (show w.heap.size≤g6 from by rw [hg];exact Nat.le_refl _);have HB4:=Qz.k (hb);clear hbox hb hg )
  |((with_reducible refine ahk (N:=7) rfl ?_);refine aik ?hg (N:=7) ?hd (cs:=arrV .u32 (List.replicate 16 0)) (t:=221) ?hr ?_;(case hd=>rfl);(case hg=>rfl);(case hr=>first|(go_simp;done)|(go_simp;rfl));intro g7 hg w5 hbox hb;have HA5:=Qz.k (show Arr w5 g7 221 .u32 (List.replicate 16 0)from hbox);have GEg7:=Qz.k (show w.heap.size≤g7 from by rw [hg];exact HB4.out.size);have HB5:=Qz.k (aaz HB4.out hb);have NEg7g6:=Qz.k (show g7≠g6 from by rw [hg];exact Nat.ne_of_gt HZ4.out.lt);have HZ5:=Qz.k (Arr.below HZ4.out hb);clear hbox hb hg HB4 HZ4)
  |(refine arq (g:=g7) (l':=[1634760805,857760878,2036477234,1797285236,0,0,0,0,0,0,0,0,0,0,0,0]) 221 (.tmp 7) (.tmp 9) rfl rfl rfl rfl rfl HA5.out (aKz _ rfl) rfl ?_;have HA6:=Qz.k (Arr.row HA5.out [1634760805,857760878,2036477234,1797285236,0,0,0,0,0,0,0,0,0,0,0,0]);have HB6:=Qz.k (anz (c:=arrV .u32 [1634760805,857760878,2036477234,1797285236,0,0,0,0,0,0,0,0,0,0,0,0]) HB5.out GEg7.out);have HZ6:=Qz.k (HZ5.out.aTz (Ne.symm NEg7g6.out) (arrV .u32 [1634760805,857760878,2036477234,1797285236,0,0,0,0,0,0,0,0,0,0,0,0]));generalize w5.setRow g7 (arrV .u32 [1634760805,857760878,2036477234,1797285236,0,0,0,0,0,0,0,0,0,0,0,0])=w6 at *))
 refine(HL1.out _ g7 _ rfl HA6.out HB6.out GEg7.out).mono ?_
 rintro e w7 ⟨rfl,⟨m7,hm,ha⟩,hb,hkb⟩
 have HM7:=Qz.k hm
 have HA7:=Qz.k ha
 have HB7:=Qz.k hb
 have HZ7:=Qz.k (HZ6.out.keep hkb (Ne.symm NEg7g6.out))
 have hc12:w7.cell? ⟨g7,12,none⟩=some (.int .u32 (rd m7 ((12:Nat):Int))):=ha.cell (by omega)
 have hf12:=ha.froz 12
 clear hm ha hb hkb HA5 HA6 HB5 HB6 HZ5 HZ6
 generalize rd m7 ((12:Nat):Int)=y12 at *
 go_upto_region 5 with(fail)
 have HA8:=Qz.k (HA7.out.put 12 cnt)
 have HB8:=Qz.k (adq (j:=12) (v := .int .u32 cnt) HB7.out GEg7.out)
 have HZ8:=Qz.k (HZ7.out.far (p:=⟨g7,12,none⟩) (Ne.symm NEg7g6.out) (.int .u32 cnt))
 have HM8:=Qz.k (show(m7.set 12 cnt).length=16 from by rw [List.length_set];exact HM7.out)
 clear hc12 hf12 HA7 HB7 HZ7
 generalize w7.setCell ⟨g7,12,none⟩ (.int .u32 cnt)=w8 at *
 go_wp2_with (fail)
 refine(HL2.out _ g7 _ HM8.out HA8.out HB8.out GEg7.out).mono ?_
 rintro e w9 ⟨rfl,⟨m9,hm,ha⟩,hb,hkb⟩
 have HM9:=Qz.k hm
 have HA9:=Qz.k ha
 have HB9:=Qz.k hb
 have HZ9:=Qz.k (HZ8.out.keep hkb (Ne.symm NEg7g6.out))
 clear hm ha hb hkb HA8 HB8 HZ8
 go_wp2_with (first
  |(refine ayk 221 (.tmp 7) rfl rfl rfl HA9.out Tryz.underlying221 (aKz m9 HM9.out) ?_)
  |(refine arq (g:=g6) (l':=m9) 221 (.tmp 6) (.tmp 19) rfl rfl rfl rfl rfl HZ9.out (aKz m9 HM9.out) (by rw [HM9.out];rfl) ?_))
 have HF:=Qz.k (Arr.row HZ9.out m9)
 refine bodyPost_ret (v := .agg (arrV .u32 m9)) ?_ rfl ⟨m9,rfl,HM9.out,?_⟩
 ·exact Arr.result rfl _ HF.out rfl Tryz.underlying221 (aKz m9 HM9.out)
 ·exact anz HB9.out GEg6.out
set_option maxHeartbeats 2000000 in
theorem chacha_turned.calls (n:List Int)(hn:n.length=16)(w:World) :
  Calls Tryz.prog 212 #[.agg (arrV .u32 n)] w fun e w'=>∃ m:List Int,e=.returned (.agg (arrV .u32 m))∧m.length=16∧Below w.heap.size w w':=by
 have HN:=Qz.k hn
 have HT:=Qz.k (fun(W:World) (g:Nat) (i j k l:Int) (m:List Int) hm hi hj hk hl hA hB hg=>chacha_turnI.calls w W g i j k l m hm hi hj hk hl hA hB hg)
 clear hn
 go_enter Tryz.func212,Tryz.ntmps212
 go_upto_region 2 with(first
  |((with_reducible refine ahk (N:=1) rfl ?_);refine aik ?hg (N:=1) ?hd (cs:=arrV .u32 (n)) (t:=221) ?hr ?_;(case hd=>rfl);(case hg=>rfl);(case hr=>first|(go_simp;done)|(go_simp;rfl));intro g1 hg w4 hbox hb;have HA4:=Qz.k (show Arr w4 g1 221 .u32 (n)from hbox);have GEg1:=Qz.k (show w.heap.size≤g1 from by rw [hg];exact Nat.le_refl _);have HB4:=Qz.k (hb);clear hbox hb hg )
  |((with_reducible refine ahk (N:=2) rfl ?_);refine aik ?hg (N:=2) ?hd (cs:=arrV .u32 (List.replicate 16 0)) (t:=221) ?hr ?_;(case hd=>rfl);(case hg=>rfl);(case hr=>first|(go_simp;done)|(go_simp;rfl));intro g2 hg w5 hbox hb;have HZ5:=Qz.k (show Arr w5 g2 221 .u32 (List.replicate 16 0)from hbox);have GEg2:=Qz.k (show w.heap.size≤g2 from by rw [hg];exact HB4.out.size);have HB5:=Qz.k (aaz HB4.out hb);have NEg2g1:=Qz.k (show g2≠g1 from by rw [hg];exact Nat.ne_of_gt HA4.out.lt);have HA5:=Qz.k (Arr.below HA4.out hb);clear hbox hb hg HB4 HA4))
 go_wp2
 go_loopg [4,5,7] 10 (fun kq v4 v5 v7 W'=>∃ (i:Nat) (m:List Int),v7=.int .i64 (i:Int)∧kq=10-i∧i≤10∧Qz (m.length=16)∧Qz (Arr W' g1 221 .u32 m)∧Qz (Arr W' g2 221 .u32 (List.replicate 16 0))∧Qz (Below w.heap.size w W'))
 case atStart=>exact⟨0,n,rfl,rfl,by omega,HN,HA5,HZ5,HB5⟩
 case round=>
  clear HA5 HZ5 HB5 HN
  obtain⟨i,m,rfl,rfl,hi,HM,HA,HZ,HB⟩:=hrel
  by_cases hlt:i<10
  ·have c3:decide ((i:Int)<10)=true:=decide_eq_true (by omega)
   have c4:decide (i<10)=true:=decide_eq_true hlt
   have n0:(i:Int)<10:=by omega
   have HW:=Qz.k (show wrap64 ((i:Int)+1)=((i+1:Nat):Int)from by rw [agq (by omega) (by omega)];omega)
   go_wp2
   go_loopg [4,9] 4 (fun kq v4 v9 W'=>∃ (k:Nat) (m:List Int),v9=.int .i64 (k:Int)∧kq=4-k∧k≤4∧Qz (m.length=16)∧Qz (Arr W' g1 221 .u32 m)∧Qz (Arr W' g2 221 .u32 (List.replicate 16 0))∧Qz (Below w.heap.size w W'))
   case atStart=>exact⟨0,m,rfl,rfl,by omega,HM,HA,HZ,HB⟩
   case round=>
    clear HM HA HZ HB
    obtain⟨k,m,rfl,rfl,hk,HM,HA,HZ,HB⟩:=hrel
    by_cases hlk:k<4
    ·have d3:decide ((k:Int)<4)=true:=decide_eq_true (by omega)
     have d4:decide (k<4)=true:=decide_eq_true hlk
     have n1:(k:Int)<4:=by omega
     have HW2:=Qz.k (show wrap64 ((k:Int)+1)=((k+1:Nat):Int)from by rw [agq (by omega) (by omega)];omega)
     go_wp2_with (fail)
     refine(HT.out _ g1 _ _ _ _ m HM.out (by omega) (by omega) (by omega) (by omega) HA.out HB.out GEg1.out).mono ?_
     rintro e w8 ⟨rfl,⟨m8,hm,ha⟩,hb,hkb⟩
     have HM8:=Qz.k hm
     have HA8:=Qz.k ha
     have HB8:=Qz.k hb
     have HZ8:=Qz.k (HZ.out.keep hkb NEg2g1.out)
     clear hm ha hb hkb HM HA HZ HB
     go_wp2
     go_roundg (4-(k+1))
     case measure=>exact(by omega)
     case rel=>
      (try rw [HW2.out])
      exact⟨k+1,m8,rfl,rfl,hlk,HM8,HA8,HZ8,HB8⟩
    ·have d3:decide ((k:Int)<4)=false:=decide_eq_false (by omega)
     have d4:decide (k<4)=false:=decide_eq_false hlk
     go_wp2
     have HM7:=HM
     have HA7:=HA
     have HZ7:=HZ
     have HB7:=HB
     clear HM HA HZ HB hk hlk d3 d4
     go_loopg [5,22] 4 (fun kq v5 v22 W'=>∃ (k:Nat) (m:List Int),v22=.int .i64 (k:Int)∧kq=4-k∧k≤4∧Qz (m.length=16)∧Qz (Arr W' g1 221 .u32 m)∧Qz (Arr W' g2 221 .u32 (List.replicate 16 0))∧Qz (Below w.heap.size w W'))
     case atStart=>exact⟨0,m,rfl,rfl,by omega,HM7,HA7,HZ7,HB7⟩
     case round=>
      clear HM7 HA7 HZ7 HB7
      obtain⟨k,m,rfl,rfl,hk,HM,HA,HZ,HB⟩:=hrel
      by_cases hlk:k<4
      ·have d3:decide ((k:Int)<4)=true:=decide_eq_true (by omega)
       have d4:decide (k<4)=true:=decide_eq_true hlk
       have n1:(k:Int)<4:=by omega
       have HW2:=Qz.k (show wrap64 ((k:Int)+1)=((k+1:Nat):Int)from by rw [agq (by omega) (by omega)];omega)
       go_wp2_with (fail)
       refine(HT.out _ g1 _ _ _ _ m HM.out (by omega) (by omega) (by omega) (by omega) HA.out HB.out GEg1.out).mono ?_
       rintro e w8 ⟨rfl,⟨m8,hm,ha⟩,hb,hkb⟩
       have HM8:=Qz.k hm
       have HA8:=Qz.k ha
       have HB8:=Qz.k hb
       have HZ8:=Qz.k (HZ.out.keep hkb NEg2g1.out)
       clear hm ha hb hkb HM HA HZ HB
       go_wp2
       go_roundg (4-(k+1))
       case measure=>exact(by omega)
       case rel=>
        (try rw [HW2.out])
        exact⟨k+1,m8,rfl,rfl,hlk,HM8,HA8,HZ8,HB8⟩
      ·have d3:decide ((k:Int)<4)=false:=decide_eq_false (by omega)
       have d4:decide (k<4)=false:=decide_eq_false hlk
       go_wp2
       go_roundg (10-(i+1))
       case measure=>exact(by omega)
       case rel=>
        (try rw [HW.out])
        exact⟨i+1,m,rfl,rfl,hlt,HM,HA,HZ,HB⟩
  ·have c3:decide ((i:Int)<10)=false:=decide_eq_false (by omega)
   have c4:decide (i<10)=false:=decide_eq_false hlt
   go_wp2_with (first
    |(refine ayk 221 (.tmp 1) rfl rfl rfl HA.out Tryz.underlying221 (aKz m HM.out) ?_)
    |(refine arq (g:=g2) (l':=m) 221 (.tmp 2) (.tmp 42) rfl rfl rfl rfl rfl HZ.out (aKz m HM.out) (by rw [HM.out];rfl) ?_))
   have HF:=Qz.k (Arr.row HZ.out m)
   refine bodyPost_ret (v := .agg (arrV .u32 m)) ?_ rfl ⟨m,rfl,HM.out,?_⟩
   ·exact Arr.result rfl _ HF.out rfl Tryz.underlying221 (aKz m HM.out)
   ·exact anz HB.out GEg2.out
end Go.Proofs.YthggdomocichdaaGreatDoor.P
namespace Go.Proofs.YthggdomocichdaaGreatDoor.P
open Go.RowKit Go.Proofs.YthggdomocichdaaGreatDoor.Kit Go.Proofs.YthggdomocichdaaGreatDoorW.PrintWords Go.Proofs.YthggdomocichdaaGreatDoorW.PrintLast Go.Proofs.YthggdomocichdaaGreatDoorW.PrintMore
attribute [local go_sem] awq awz aCq aCz
theorem By.four (a b c:Int){x:Int}(h:0≤x∧x<4294967296):By [a%256,b%256,c%256,x/16777216]:=fun y hy=>by
 simp only [List.mem_cons,List.not_mem_nil,or_false]at hy
 omega
set_option maxHeartbeats 4000000 in
theorem chacha_block.calls (A0:Option Addr)(c0:Nat)(key:List Int)(cnt:Int)(A1:Option Addr)(c1:Nat)(nonce:List Int)(w:World)(hr0:Kd.C (Kd.int .u8) w A0 key.length key)(hk:key.length=32)(hr1:Kd.C (Kd.int .u8) w A1 nonce.length nonce)(hn:nonce.length=12) :
  Calls Tryz.prog 168 #[.slice A0 key.length c0,.int .u32 cnt,.slice A1 nonce.length c1] w fun e w'=>∃ (v0_:Value) (r:List Int),e=.returned v0_∧r.length=64∧By r∧Kd.R (Kd.int .u8) 5 w' w.heap.size (fun _=>True) v0_ r∧Below w.heap.size w w':=by
 have HF:=Qz.k (chacha_first.calls A0 c0 key cnt A1 c1 nonce w hr0 hk hr1 hn)
 clear hr0 hk hr1 hn
 go_enter Tryz.func168,Tryz.ntmps168
 go_wp2_with (fail)
 refine HF.out.mono ?_
 rintro e w3 ⟨m,rfl,hm,hb⟩
 have HM:=Qz.k hm
 have HB3:=Qz.k hb
 clear hm hb HF
 go_wp2_with (first
  |((with_reducible refine ahk (N:=7) rfl ?_);refine aik ?hg (N:=7) ?hd (cs:=arrV .u32 (List.replicate 16 0)) (t:=221) ?hr ?_;(case hd=>rfl);(case hg=>rfl);(case hr=>first|(go_simp;done)|(go_simp;rfl));intro g7 hg w4 hbox hb;have HZ4:=Qz.k (show Arr w4 g7 221 .u32 (List.replicate 16 0)from hbox);have GEg7:=Qz.k (show w.heap.size≤g7 from by rw [hg];exact HB3.out.size);have HB4:=Qz.k (aaz HB3.out hb);clear hbox hb hg HB3)
  |(refine arq (g:=g7) (l':=m) 221 (.tmp 7) (.tmp 14) rfl rfl rfl rfl rfl HZ4.out (aKz m HM.out) (by rw [HM.out];rfl) ?_;have HA5:=Qz.k (Arr.row HZ4.out m);have HB5:=Qz.k (anz (c:=arrV .u32 m) HB4.out GEg7.out);clear HZ4 HB4;generalize w4.setRow g7 (arrV .u32 m)=w5 at *)
  |((with_reducible refine ahk (N:=15) rfl ?_);refine Kd.R_mkcap (Kd.int .u8) (w0:=w) w.heap.size 5 rfl (N:=15) rfl 27 (.const (.int .i64 0)) (.const (.int .i64 64)) rfl 64 rfl rfl Tryz.underlying27 (.int .u8 0) 1 info5 rfl (by decide) (by decide) 0 (ok:=fun _=>True) (okp:=fun _=>True) rfl (fun _ h=>h) trivial (by decide) (by decide) HB5.out (afq HB5.out) ?_;intro v15 w6 ho hb hg hat;have HA6:=Qz.k (HA5.out.grown hg (by simp));have HB6:=Qz.k hb;have HO6:=Qz.k ho;clear ho hb hg hat HA5 HB5)
  |(refine ayk 221 (.tmp 7) rfl rfl rfl HA6.out Tryz.underlying221 (aKz m HM.out) ?_))
 refine(chacha_turned.calls m HM.out _).mono ?_
 rintro e w7 ⟨mt,rfl,hm,hb⟩
 have HMT:=Qz.k hm
 have HA7:=Qz.k (Arr.below HA6.out hb)
 have HO7:=Qz.k (Kd.ahz HO6.out hb)
 have HB7:=Qz.k (aaz HB6.out hb)
 have HIX:=Qz.k (fun(j:Nat) (hj:j<16) (W:World)=>index_arr (P:=Tryz.prog) (k := .u32) Tryz.underlying221 Tryz.underlying149 (by kernel_rfl) HMT.out hj W)
 clear hm hb HA6 HO6 HB6
 go_wp2
 go_loopg [8,9,10,18] 16 (fun kq v8 v9 v10 v18 W'=>∃ (k:Nat) (out:List Int),v18=.int .i64 (k:Int)∧kq=16-k∧k≤16∧Qz (out.length=4*k∧By out)∧Qz (Arr W' g7 221 .u32 m)∧Qz (Below w.heap.size w W')∧Qz (Kd.R (Kd.int .u8) 5 W' w.heap.size (fun _=>True) v8 out))
 case atStart=>exact⟨0,[],rfl,rfl,by omega,⟨rfl,fun x hx=>by simp at hx⟩,HA7,HB7,HO7⟩
 case round=>
  clear HA7 HB7 HO7
  obtain⟨k,out,rfl,rfl,hk,HOL,HA,HB,HO⟩:=hrel
  by_cases hlt:k<16
  ·have c3:decide ((k:Int)<16)=true:=decide_eq_true (by omega)
   have c4:decide (k<16)=true:=decide_eq_true hlt
   have n0:(k:Int)<16:=by omega
   have HW:=Qz.k (show wrap64 ((k:Int)+1)=((k+1:Nat):Int)from by rw [agq (by omega) (by omega)];omega)
   have hix:=HIX.out k hlt
   have hcx:wr.cell? ⟨g7,k,none⟩=some (.int .u32 (rd m (k:Int))):=HA.out.cell (by have:=HM.out;omega)
   have HOM:=Qz.k (show out.length≤64 from by have:=HOL.out.1;omega)
   generalize rd m (k:Int)=y at *
   generalize rd mt (k:Int)=z at *
   obtain⟨x,hx⟩:∃ x,(z+y)%4294967296=x:=⟨_,rfl⟩
   have HX4:=Qz.k (show 0≤x∧x<4294967296 from by omega)
   have hx2:IntKind.u32.wrap (z+y)=x:=by rw [←hx];exact IntKind.wrap_u32 _
   go_wp2_with (first
    |((with_reducible refine ahk (N:=39) rfl ?_);refine Kd.bwz (Kd.int .u8) _ 5 ?hg (N:=39) ?hd (xs:=[x%256,x/256%256,x/65536%256,x/16777216]) (inner:=[.int .u8 (x%256),.int .u8 (x/256%256),.int .u8 (x/65536%256),.int .u8 (x/16777216)]) (ok:=fun _=>True) (okp:=fun _=>True) ?hr ?hp (fun _ hk=>hk) trivial (Below.refl _ _) (Nat.le_refl _) (by simp) ?_;(case hd=>rfl);(case hg=>rfl);(case hr=>first|(go_simp;done)|(go_simp;rfl));(case hp=>exact(Reps.one (show Kd.M (Kd.int .u8) _ _ _ (x%256) [.int .u8 (x%256)]from rfl) (Reps.one (show Kd.M (Kd.int .u8) _ _ _ (x/256%256) [.int .u8 (x/256%256)]from rfl) (Reps.one (show Kd.M (Kd.int .u8) _ _ _ (x/65536%256) [.int .u8 (x/65536%256)]from rfl) (Reps.one (show Kd.M (Kd.int .u8) _ _ _ (x/16777216) [.int .u8 (x/16777216)]from rfl) (Reps.none _ _))))));intro v39 w39 ho hb hg_ hnew_;obtain⟨Al,cl,el_⟩:=Kd.afz ho;subst el_;have HL:=Qz.k ho;have HOB:=Qz.k (Kd.ahz HO.out hb);have HBL:=Qz.k (aaz HB.out hb);have HAL:=Qz.k (Arr.below HA.out hb);clear ho hb HO HB HA hg_ hnew_)
    |((with_reducible refine agk (b := .append) (xs:=#[.tmp 27,.tmp 39]) rfl ?_);at_builtin;refine Kd.ahq (Kd.int .u8) (w0:=w) w.heap.size rfl (.tmp 27) (.tmp 39) 27 5 (.int .u8 0) 1 rfl Tryz.underlying27 info5 rfl (by decide) (by omega) u8 out [x%256,x/256%256,x/65536%256,x/16777216] _ _ _ (fun _=>True) (fun _=>False) rfl rfl ?aO ?aR (fun _ _ h=>h) (fun _ h=>h.elim) ?aF ?aB ?aS ?aL ?_;(case aR=>exact(Kd.ack HL.out).2.2);(case aB=>exact HBL.out);(case aF=>exact(fun _ _=>trivial));(case aO=>exact HOB.out);(case aS=>exact(afq HBL.out));(case aL=>have:=HOM.out;simp;omega);intro v40 w40 ho hb hg hat;have HB9:=Qz.k hb;have HO9:=Qz.k ho;have HA9:=Qz.k (HAL.out.grown hg (HAL.out.own_ne HOB.out (by decide)));clear ho hb hg hat))
   go_roundg (16-(k+1))
   case measure=>exact(by omega)
   case rel=>
    (try rw [HW.out])
    exact⟨k+1,out ++ [x%256,x/256%256,x/65536%256,x/16777216],rfl,rfl,hlt,⟨by rw [List.length_append,HOL.out.1];simp;omega,HOL.out.2.app (By.four _ _ _ HX4.out)⟩,HA9,HB9,HO9⟩
  ·have c3:decide ((k:Int)<16)=false:=decide_eq_false (by omega)
   have c4:decide (k<16)=false:=decide_eq_false hlt
   have HRL:=Qz.k (show out.length=64 from by rw [HOL.out.1];omega)
   go_wp2
   go_ret
   exact⟨_,out,rfl,HRL.out,HOL.out.2,HO.out,HB.out⟩
theorem bXz {key nonce:List Int}(hk:key.length=32)(hn:nonce.length=12):chacha_right.f key nonce=some true:=by
 unfold chacha_right.f
 simp [hk,hn]
set_option maxHeartbeats 4000000 in
theorem chacha_Block.calls (A0:Option Addr)(c0:Nat)(key:List Int)(cnt:Int)(A1:Option Addr)(c1:Nat)(nonce:List Int)(w:World)(hr0:Kd.C (Kd.int .u8) w A0 key.length key)(hc0:key.length≤c0)(hk:key.length=32)(hr1:Kd.C (Kd.int .u8) w A1 nonce.length nonce)(hc1:nonce.length≤c1)(hn:nonce.length=12) :
  Calls Tryz.prog 163 #[.slice A0 key.length c0,.int .u32 cnt,.slice A1 nonce.length c1] w fun e w'=>∃ (v0_:Value) (r:List Int),e=.returned (.tuple #[v0_,.int .i64 0])∧r.length=64∧By r∧Kd.R (Kd.int .u8) 5 w' w.heap.size (fun _=>True) v0_ r∧Below w.heap.size w w':=by
 have HRT:=Qz.k (chacha_right.calls A0 c0 key A1 c1 nonce true w hr0 hc0 hr1 hc1 (bXz hk hn))
 have HBK:=Qz.k (fun w1 (h:Below w.heap.size w w1)=>chacha_block.calls A0 c0 key cnt A1 c1 nonce w1 (Kd.acz hr0 h) hk (Kd.acz hr1 h) hn)
 clear hr0 hc0 hk hr1 hc1 hn
 go_enter Tryz.func163,Tryz.ntmps163
 go_wp2_with (fail)
 refine HRT.out.mono ?_
 rintro e w3 ⟨rfl,⟨nd,rfl⟩⟩
 have HB3:=Qz.k (adz (Below.refl w.heap.size w) nd)
 generalize w.drewN nd=w3 at *
 clear HRT
 go_wp2_with (fail)
 refine(HBK.out _ HB3.out).mono ?_
 rintro e w4 ⟨v4,r4,rfl,hl,hby,ho,hb⟩
 have HR4:=Qz.k (Kd.aiq ho HB3.out.size)
 have HB4:=Qz.k (aaz HB3.out hb)
 have HL4:=Qz.k hl
 have HY4:=Qz.k hby
 clear ho hb hl hby HBK
 go_wp2
 go_ret2
 exact⟨_,_,rfl,HL4.out,HY4.out,HR4.out,HB4.out⟩
set_option maxHeartbeats 4000000 in
theorem chacha_Stream.calls (A0:Option Addr)(c0:Nat)(key:List Int)(A1:Option Addr)(c1:Nat)(nonce:List Int)(A2:Option Addr)(c2:Nat)(b:List Int)(w:World)(hr0:Kd.C (Kd.int .u8) w A0 key.length key)(hc0:key.length≤c0)(hk:key.length=32)(hr1:Kd.C (Kd.int .u8) w A1 nonce.length nonce)(hc1:nonce.length≤c1)(hn:nonce.length=12)
  (hr2:Kd.C (Kd.int .u8) w A2 b.length b) (hc2:b.length≤c2) (hl0:0<b.length) (hl:b.length<4294967296) :
  Calls Tryz.prog 113 #[.slice A0 key.length c0,.int .u32 1,.slice A1 nonce.length c1,.slice A2 b.length c2] w fun e w'=>∃ (v0_:Value) (r:List Int),e=.returned (.tuple #[v0_,.int .i64 0])∧r.length=b.length∧By r∧Kd.R (Kd.int .u8) 5 w' w.heap.size (fun _=>True) v0_ r∧Below w.heap.size w w':=by
 have HRT:=Qz.k (chacha_right.calls A0 c0 key A1 c1 nonce true w hr0 hc0 hr1 hc1 (bXz hk hn))
 have HBK:=Qz.k (fun(cnt:Int) w1 (h:Below w.heap.size w w1)=>chacha_block.calls A0 c0 key cnt A1 c1 nonce w1 (Kd.acz hr0 h) hk (Kd.acz hr1 h) hn)
 have HR2:=Qz.k hr2
 have HC2:=Qz.k hc2
 have HL:=Qz.k hl
 have HL0:=Qz.k hl0
 clear hr0 hc0 hk hr1 hc1 hn hr2 hc2 hl hl0
 go_enter Tryz.func113,Tryz.ntmps113
 go_wp2_with (fail)
 refine HRT.out.mono ?_
 rintro e w3 ⟨rfl,⟨nd,rfl⟩⟩
 have HB3:=Qz.k (adz (Below.refl w.heap.size w) nd)
 generalize w.drewN nd=w3 at *
 clear HRT
 obtain⟨K,hK⟩:∃ K:Nat,(b.length+63)/64=K:=⟨_,rfl⟩
 have k1:((b.length:Int)+63)/64=(K:Int):=by omega
 have k2:(K:Int)≤4294967295:=by have:=HL.out;omega
 have k3:IntKind.u64.wrap (K:Int)=(K:Int):=by rw [aMq];omega
 have k4:decide (4294967295<(K:Int))=false:=decide_eq_false (by omega)
 have k5:((b.length:Int)+64-1)/64=(K:Int):=by omega
 have k6:(b.length:Int)<4294967296:=by have:=HL.out;omega
 clear hK
 go_upto_region 7 with(first
  |((with_reducible refine ahk (N:=34) rfl ?_);refine Kd.bSq (Kd.int .u8) (w0:=w3) w3.heap.size 5 rfl (N:=34) rfl 27 _ _ rfl (b.length:Int) rfl rfl Tryz.underlying27 (.int .u8 0) 1 info5 rfl (by decide) (by decide) 0 (ok:=fun _=>True) (okp:=fun _=>True) rfl (fun _ h=>h) trivial (by omega) (by have:=HL.out;omega) (Below.refl _ _) (Nat.le_refl _) ?_;intro v34 w4 ho hb hg_ hnew_;clear hg_ hnew_;rw [Int.toNat_natCast]at ho;obtain⟨g2,q2,e2,gb,gl,gc⟩:=Kd.bjz ho (by rw [List.length_replicate];exact HL0.out);subst e2;clear gc gl;have GE2:=Qz.k (show w.heap.size≤g2 from Nat.le_trans HB3.out.size gb);have HO4:=Qz.k (Kd.aiq ho HB3.out.size);have HB4:=Qz.k (aaz HB3.out hb);have G2:=Qz.k (Kd.R_lt ho g2 rfl);clear ho hb HB3 gb))
 rw [List.length_replicate]at HO4
 go_wp2
 go_loopg [1,12,13,14,15] (b.length+64) (fun kq v1 v12 v13 v14 v15 W'=>∃ (k:Nat) (cnt:Int) (out:List Int),v12=.int .i64 (k:Int)∧v1=.int .u32 cnt∧kq=b.length+64-k∧k≤b.length+63∧Qz (out.length=b.length∧By out)∧Qz (Kd.R (Kd.int .u8) 5 W' w.heap.size (fun _=>True) (.slice (some ⟨g2,0,none⟩) b.length q2) out)∧Qz (Below w.heap.size w W')∧Qz (g2<W'.heap.size))
 case atStart=>exact⟨0,1,_,rfl,rfl,rfl,by omega,⟨List.length_replicate,By.zero _⟩,HO4,HB4,G2⟩
 case round=>
  clear HO4 HB4 G2
  obtain⟨k,cnt,out,rfl,rfl,rfl,hk,HOL,HO,HB,HG⟩:=hrel
  by_cases hlt:k<b.length
  ·have c3:decide ((k:Int)<(b.length:Int))=true:=decide_eq_true (by omega)
   have c4:decide (k<b.length)=true:=decide_eq_true hlt
   have HW:=Qz.k (show wrap64 ((k:Int)+64)=((k+64:Nat):Int)from by have:=HL.out;rw [agq (by omega) (by omega)];omega)
   have H7:=Qz.k (show wrap64 ((k:Int)+64)=(k:Int)+64 from by have:=HL.out;exact agq (by omega) (by omega))
   obtain⟨ad,ea,hx⟩:=Kd.asz HR2.out (k:Int) (by omega) (by omega)
   subst ea
   clear hx
   obtain⟨en,hen⟩:∃ en:Nat,min (k+64) b.length=en:=⟨_,rfl⟩
   have m1:k≤en:=by omega
   have m2:en≤b.length:=by omega
   have m3:en≤k+64:=by omega
   have m4:k<c2:=by have:=HC2.out;omega
   have m5:en≤c2:=by have:=HC2.out;omega
   have HMI:=Qz.k (show(if(b.length:Int)<(k:Int)+64 then(b.length:Int)else(k:Int)+64)=(en:Int)from by split <;> omega)
   obtain⟨P,hP⟩:∃ P,(b.take en).drop k=P:=⟨_,rfl⟩
   have HPL:=Qz.k (show P.length=en-k from by rw [←hP,List.length_drop,List.length_take];omega)
   have HSUB:=Qz.k (show Kd.C (Kd.int .u8) w (some (ad.add k)) (en-k) P from by
    have:=Kd.C_mid (lo:=k) (hi:=en) HR2.out m1 m2 HC2.out
    rw [if_neg (by omega),hP,HPL.out]at this
    (rw [show(Kd.int IntKind.u8).sz=1 from rfl,Nat.mul_one]at this;exact this))
   clear hP hen
   go_wp2_with (fail)
   refine(HBK.out cnt _ HB.out).mono ?_
   rintro e w8 ⟨v8,rk,rfl,hl,hby,ho,hb⟩
   obtain⟨Ak,ck,ek⟩:=Kd.afz ho
   subst ek
   have HKL:=Qz.k hl
   have HVK:=Qz.k (show Kd.V (Kd.int .u8) 5 w8 0 (fun k=>k≠g2) (.slice Ak rk.length ck) rk from Kd.V_map (Kd.bRq (Kd.R_V (base':=0) (Kd.axz ho)) (ok':=fun k=>k≠g2) (fun k hk=>by have:=hk.2.1;have:=HG.out;omega)) (fun _ h=>h))
   have HO8:=Qz.k (Kd.ahz HO.out hb)
   have HB8:=Qz.k (aaz HB.out hb)
   have HG8:=Qz.k (show g2<w8.heap.size from Nat.lt_of_lt_of_le HG.out hb.size)
   clear hl hby ho hb HO HB HG
   obtain⟨D,hD⟩:∃ D:Nat,en-k=D:=⟨_,rfl⟩
   have hDi:(en:Int)-(k:Int)=(D:Int):=by omega
   have d1:D≤64:=by omega
   have d2:k+D≤b.length:=by omega
   rw [hD]at HSUB HPL
   have n7:=H7.out
   have hmi:=HMI.out
   clear k1 k2 k3 k4 k5 k6
   go_wp2
   clear n7 hmi
   go_loopg [14,15,54] D (fun kq v14 v15 v54 W'=>∃ (j:Nat) (out:List Int),v54=.int .i64 (j:Int)∧kq=D-j∧j≤D∧Qz (out.length=b.length∧By out)∧Qz (Kd.R (Kd.int .u8) 5 W' w.heap.size (fun _=>True) (.slice (some ⟨g2,0,none⟩) b.length q2) out)∧Qz (Below w.heap.size w W')∧Qz (g2<W'.heap.size)∧Qz (Kd.V (Kd.int .u8) 5 W' 0 (fun k=>k≠g2) (.slice Ak rk.length ck) rk))
   case atStart=>exact⟨0,out,rfl,rfl,by omega,HOL,HO8,HB8,HG8,HVK⟩
   case round=>
    clear HOL HO8 HB8 HG8 HVK
    obtain⟨j,out,rfl,rfl,hj,HOL,HO,HB,HG,HV⟩:=hrel
    by_cases hlj:j<D
    ·have d3:decide ((j:Int)<(D:Int))=true:=decide_eq_true (by omega)
     have d4:decide (j<D)=true:=decide_eq_true hlj
     have n1:(j:Int)<64:=by omega
     have HW2:=Qz.k (show wrap64 ((j:Int)+1)=((j+1:Nat):Int)from by rw [agq (by omega) (by omega)];omega)
     obtain⟨s,hs⟩:∃ s:Nat,k+j=s:=⟨_,rfl⟩
     have hsum:(k:Int)+(j:Int)=(s:Int):=by omega
     have s1:(s:Int)<(b.length:Int):=by omega
     have s2:wrap64 ((k:Int)+(j:Int))=(s:Int):=by have:=HL.out;rw [agq (by omega) (by omega)];omega
     have s3:s<b.length:=by omega
     clear hs
     have HRC:=Kd.asz HSUB.out (j:Int) (by omega) (by omega)
     obtain⟨ad2,ea2,hx⟩:=HRC
     injection ea2 with ea2
     subst ea2
     rw [Int.toNat_natCast]at hx
     replace hx:=(HB.out.cell (World.block_lt_of_cell? w _ hx)).trans hx
     generalize rd P (j:Int)=x at *
     obtain⟨adk,eak,hxk⟩:=Kd.asz (Kd.V_reads' HV.out).2.2 (j:Int) (by omega) (by have:=HKL.out;omega)
     have HAK:=Qz.k eak
     rw [Int.toNat_natCast]at hxk
     generalize rd rk (j:Int)=y at *
     obtain⟨hox,hof⟩:=Kd.aUq 0 HO.out (s:Int) (by omega) (by have:=HOL.out.1;omega)
     simp only [Int.toNat_natCast]at hox hof
     generalize rdOf 0 out (s:Int)=oo at *
     subst eak
     have s4:wrap64 (s:Int)=(s:Int):=by have:=HL.out;exact agq (by omega) (by omega)
     have s5:(0:Int)≤(s:Int):=by omega
     have s6:j<rk.length:=by have:=HKL.out;omega
     have s7:(j:Int)<(rk.length:Int):=by omega
     clear hDi
     go_wp2
     go_roundg (D-(j+1))
     case measure=>exact(by omega)
     case rel=>
      (try rw [HW2.out])
      refine⟨j+1,out.set ((s:Int)).toNat ?xx1,rfl,rfl,hlj,⟨?aa1⟩,⟨?bb1⟩,⟨?cc1⟩,⟨?dd1⟩,⟨?ee1⟩⟩
      case bb1=>exact Kd.bCq HO.out (s:Int) _
      case aa1=>exact⟨by rw [List.length_set];exact HOL.out.1,HOL.out.2.set (xor8_by _ _) _⟩
      case cc1=>exact adq HB.out GE2.out
      case dd1=>simpa [World.setCell]using HG.out
      case ee1=>exact Kd.V_far HV.out (fun _ h=>h) _
    ·have d3:decide ((j:Int)<(D:Int))=false:=decide_eq_false (by omega)
     have d4:decide (j<D)=false:=decide_eq_false hlj
     go_wp2
     go_roundg (b.length+64-(k+64))
     case measure=>exact(by omega)
     case rel=>
      (try rw [HW.out])
      exact⟨k+64,_,out,rfl,rfl,rfl,by omega,HOL,HO,HB,HG⟩
  ·have c3:decide ((k:Int)<(b.length:Int))=false:=decide_eq_false (by omega)
   have c4:decide (k<b.length)=false:=decide_eq_false hlt
   go_wp2
   go_ret2
   exact⟨_,out,rfl,HOL.out.1,HOL.out.2,HO.out,HB.out⟩
end Go.Proofs.YthggdomocichdaaGreatDoor.P
namespace Go.Proofs.YthggdomocichdaaGreatDoor.P
open Go.RowKit Go.Proofs.YthggdomocichdaaGreatDoor.Kit Go.Proofs.YthggdomocichdaaGreatDoorW.PrintWords Go.Proofs.YthggdomocichdaaGreatDoorW.PrintLast Go.Proofs.YthggdomocichdaaGreatDoorW.PrintMore
theorem bDk {ls:List (List Int)}{j:Nat}(hj:j<ls.length):aDq ls (j:Int)∈ls:=by
 have e:aDq ls (j:Int)=ls[j]:=by simp [aDq,List.getD_eq_getElem?_getD,List.getElem?_eq_getElem hj]
 rw [e]
 exact List.getElem_mem hj
theorem lin2 {n j:Nat}(h:n≤j*16777216)(hj:j≤2):n≤33554432:=by omega
theorem lin3 {n m j:Nat}(h:n≤j*16777216)(hm:m<16777216):n+m≤(j+1)*16777216:=by omega
theorem append_none {ops:Array Oper}{rest:List Oper}{o:Oper}{a:Act}{Q:Exit→Act→World→Prop}{W:World}(hgd:o.guard=none)(s x:Operand)(ho:o.op=.call { callee := .builtin .append,args:=#[s,x],argTypes:=#[27,3] }){A:Option Addr}{n c:Nat}
  (hs:a.eval s=.slice A n c) (hnc:n≤c) (hx:a.eval x=.int .i64 0) (h:wpList Tryz.prog ops Q rest (a.put o.dst (.slice A n c)) W):wpList Tryz.prog ops Q (o :: rest) a W:=by
 refine Kd.bdk hgd ?_ h
 have hw:IntKind.i64.wrap 0=0:=by decide
 cases A <;> simp [hw,hnc,storeCells,execOp,ho,resolve,invoke,builtin,Builtin.append_,hs,hx,run_underlying Tryz.underlying27,run_underlying Tryz.underlying3,Sem.run_bind,asInt,asIntOf]
theorem By.nil : By []:=fun x hx=>by simp at hx
set_option maxHeartbeats 2000000 in
theorem aead_low_weak.calls (n:Int)(w:World) :
  Calls Tryz.prog 165 #[.int .i64 n] w fun e w'=>∃ (v0_:Value) (r:List Int),e=.returned v0_∧r.length=8∧By r∧Kd.R (Kd.int .u8) 5 w' w.heap.size (fun _=>True) v0_ r∧Below w.heap.size w w':=by
 go_enter Tryz.func165,Tryz.ntmps165
 go_wp2
 go_loopg [3,4,5] 8 (fun kq v3 v4 v5 W'=>∃ (k:Nat) (out:List Int),v5=.int .i64 (k:Int)∧kq=8-k∧k≤8∧Qz (out.length=k∧By out)∧Qz (Below w.heap.size w W')∧Qz (Kd.R (Kd.int .u8) 5 W' w.heap.size (fun _=>True) v3 out))
 case atStart=>exact⟨0,[],rfl,rfl,by omega,⟨rfl,By.nil⟩,⟨Below.refl _ _⟩,⟨Kd.ayz _ _ _ _ _⟩⟩
 case round=>
  obtain⟨k,out,rfl,rfl,hk,HOL,HB,HO⟩:=hrel
  by_cases hlt:k<8
  ·have c3:decide ((k:Int)<8)=true:=decide_eq_true (by omega)
   have c4:decide (k<8)=true:=decide_eq_true hlt
   have n0:(k:Int)<8:=by omega
   have n1:wrap64 (8*(k:Int))=8*(k:Int):=agq (by omega) (by omega)
   have HW:=Qz.k (show wrap64 ((k:Int)+1)=((k+1:Nat):Int)from by rw [agq (by omega) (by omega)];omega)
   have HOM:=Qz.k (show out.length≤8 from by have:=HOL.out.1;omega)
   go_wp2_with (first
    |((with_reducible refine agk (b := .append) (xs:=#[.tmp 8,.tmp 15]) rfl ?_);at_builtin;refine Kd.aVq (Kd.int .u8) (w0:=w) w.heap.size rfl (.tmp 8) (.tmp 15) 27 5 (.int .u8 0) 1 rfl Tryz.underlying27 info5 rfl (by decide) (by omega) u3 out _ _ (fun _=>True) (fun _=>False) rfl rfl rfl (fun _ hk=>hk.elim) (fun _ _=>trivial) HO.out HB.out HB.out.size (by have:=HOM.out;omega) ?_;intro v16 w16 ho hb hg hat;have HB9:=Qz.k hb;have HO9:=Qz.k ho;clear ho hb hg hat))
   go_roundg (8-(k+1))
   case measure=>exact(by omega)
   case rel=>
    (try rw [HW.out])
    exact⟨k+1,out ++ [_],rfl,rfl,hlt,⟨by rw [List.length_append,HOL.out.1];rfl,HOL.out.2.app (fun x hx=>by rw [List.mem_singleton.1 hx];first|exact u8w_by _|omega)⟩,HB9,HO9⟩
  ·have c3:decide ((k:Int)<8)=false:=decide_eq_false (by omega)
   have c4:decide (k<8)=false:=decide_eq_false hlt
   have HRL:=Qz.k (show out.length=8 from by have:=HOL.out.1;omega)
   go_wp2
   go_ret
   exact⟨_,out,rfl,HRL.out,HOL.out.2,HO.out,HB.out⟩
set_option maxHeartbeats 2000000 in
theorem aead_filled_weak.calls (A0:Option Addr)(c0:Nat)(ls:List (List Int))(w:World)(hr0:Kd.C (Kd.slice 5 (Kd.int .u8)) w A0 ls.length ls)(hl:ls.length=3)(hb:∀ b∈ls,b.length<16777216∧b.length%16=0∧By b) :
  Calls Tryz.prog 164 #[.slice A0 ls.length c0] w fun e w'=>∃ (v0_:Value) (r:List Int),e=.returned v0_∧r.length<67108864∧By r∧Kd.R (Kd.int .u8) 5 w' w.heap.size (fun _=>True) v0_ r∧Below w.heap.size w w':=by
 have HR:=Qz.k hr0
 have HLS:=Qz.k hl
 have HBL:=Qz.k (show ∀ j:Nat,j<ls.length→(aDq ls (j:Int)).length<16777216∧(aDq ls (j:Int)).length%16=0∧By (aDq ls (j:Int))from fun j hj=>hb _ (bDk hj))
 clear hr0 hl hb
 go_enter Tryz.func164,Tryz.ntmps164
 go_wp2
 go_loopg [3,5,8] ls.length (fun kq v3 v5 v8 W'=>∃ (j:Nat) (out:List Int),v8=.int .i64 (j:Int)∧kq=ls.length-j∧j≤ls.length∧Qz (out.length≤j*16777216∧By out)∧Qz (Below w.heap.size w W')∧Qz (Kd.R (Kd.int .u8) 5 W' w.heap.size (fun _=>True) v3 out))
 case atStart=>exact⟨0,[],rfl,rfl,by omega,⟨by simp,By.nil⟩,⟨Below.refl _ _⟩,⟨Kd.ayz _ _ _ _ _⟩⟩
 case round=>
  obtain⟨j,out,rfl,rfl,hj,HOL,HB,HO⟩:=hrel
  by_cases hlt:j<ls.length
  ·have c5:decide ((j:Int)<(ls.length:Int))=true:=decide_eq_true (by omega)
   have c6:decide (j<ls.length)=true:=decide_eq_true hlt
   have n0:(j:Int)<3:=by have:=HLS.out;omega
   have HW:=Qz.k (show wrap64 ((j:Int)+1)=((j+1:Nat):Int)from by rw [agq (by omega) (by omega)];omega)
   obtain⟨ad,Aj,cj,e5,hxj,hlj,hij⟩:=bVk HR.out (j:Int) (by omega) (by omega)
   subst e5
   rw [Int.toNat_natCast]at hxj
   replace hxj:=(HB.out.cell (World.block_lt_of_cell? w _ hxj)).trans hxj
   have HBJ:=Qz.k (HBL.out j hlt)
   generalize aDq ls (j:Int)=b at *
   have HCJ:=Qz.k (Kd.acz hij HB.out)
   have HOM:=Qz.k (show out.length≤33554432 from lin2 HOL.out.1 (by omega))
   have m2:(b.length:Int)%16=0:=by have:=HBJ.out.2.1;omega
   have m1:wrap64 ((b.length:Int).tmod 16)=0:=by have:=HBJ.out.2.1;rw [Int.tmod_eq_emod_of_nonneg (by omega),agq (by omega) (by omega)];omega
   clear hlj hij
   go_wp2_with (first
    |((with_reducible refine agk (b := .append) (xs:=#[.tmp 12,.tmp 13]) rfl ?_);at_builtin;refine Kd.ahq (Kd.int .u8) (w0:=w) w.heap.size rfl (.tmp 12) (.tmp 13) 27 5 (.int .u8 0) 1 rfl Tryz.underlying27 info5 rfl (by decide) (by omega) u3 out b _ _ _ (fun _=>True) (fun _=>False) rfl rfl HO.out HCJ.out (fun _ _ h=>h) (fun _ h=>h.elim) (fun _ _=>trivial) HB.out HB.out.size (by have h1:=HOM.out;have h2:=HBJ.out.1;clear HOM HBJ;omega) ?_;intro v14 w14 ho hb hg hat;have HB9:=Qz.k hb;have HO9:=Qz.k ho;clear ho hb hg hat;obtain⟨A9,c9,e9⟩:=Kd.afz HO9.out;subst e9;have HO8:=Qz.k (by have:=HO9.out;rwa [List.length_append]at this))
    |((with_reducible refine agk (b := .append) (xs:=#[.tmp 15,.tmp 20]) rfl ?_);at_builtin;refine append_none rfl (.tmp 15) (.tmp 20) rfl rfl (Nat.le_trans (Nat.le_of_eq (List.length_append).symm) (Kd.ack HO9.out).2.1) rfl ?_))
   go_roundg (ls.length-(j+1))
   case measure=>exact(by omega)
   case rel=>
    (try rw [HW.out])
    exact⟨j+1,out++b,rfl,rfl,hlt,⟨by rw [List.length_append];exact lin3 HOL.out.1 HBJ.out.1,HOL.out.2.app HBJ.out.2.2⟩,HB9,HO8⟩
  ·have c5:decide ((j:Int)<(ls.length:Int))=false:=decide_eq_false (by omega)
   have c6:decide (j<ls.length)=false:=decide_eq_false hlt
   have HRL:=Qz.k (show out.length<67108864 from Nat.lt_of_le_of_lt (Nat.le_trans HOL.out.1 (Nat.mul_le_mul_right _ (show j≤3 by have:=HLS.out;omega))) (by decide))
   go_wp2
   go_ret
   exact⟨_,out,rfl,HRL.out,HOL.out.2,HO.out,HB.out⟩
end Go.Proofs.YthggdomocichdaaGreatDoor.P
namespace Go.Proofs.YthggdomocichdaaGreatDoor.P
open Go.RowKit Go.Proofs.YthggdomocichdaaGreatDoor.Kit Go.Proofs.YthggdomocichdaaGreatDoor.Var Go.Proofs.YthggdomocichdaaGreatDoorW.PrintWords Go.Proofs.YthggdomocichdaaGreatDoorW.PrintLast Go.Proofs.YthggdomocichdaaGreatDoorW.PrintMore
def sB (s:ByteArray):List Int:=s.data.toList.map fun b=>(b.toNat:Int)
theorem aCk (s:ByteArray):(sB s).length=s.size:=by
 rw [sB,List.length_map]
 rfl
theorem sB_by (s:ByteArray):By (sB s):=fun x hx=>by
 obtain⟨b,_,rfl⟩:=List.mem_map.1 hx
 have:=b.toNat_lt
 omega
theorem sB_at (s:ByteArray)(cap:Nat){j:Nat}{x:Int}(h:(sB s)[j]? = some x):(Go.bytesRow s cap)[j]? = some (.int .u8 x):=by
 have hj:=(List.getElem?_eq_some_iff.1 h).1
 rw [aCk]at hj
 rw [sB,List.getElem?_map]at h
 obtain⟨b,hb,rfl⟩:=Option.map_eq_some_iff.1 h
 have hs:j<s.data.size:=hj
 have hb2:s.data[j]=b:=by
  have:=List.getElem?_eq_some_iff.1 hb
  obtain⟨_,h2⟩:=this
  simpa using h2
 simp [Go.bytesRow,Array.getElem?_append,hj,Array.getElem?_eq_getElem hs,hb2]
theorem bhk {P:Program}{ops:Array Oper}{rest:List Oper}{o:Oper}{a:Act}{Q:Exit→Act→World→Prop}{W:World}(hgd:o.guard=none)(x:Operand)(src dst e:TypeId)(ho:o.op=.convert src dst x){s:ByteArray}(hx:a.eval x=.string s)
  (hs:P.underlying src=some .string) (hd:P.underlying dst=some (.slice e)) (he:P.underlying e=some (.int .u8)) (hsz:s.size≤9223372036854775807)
  (h:∀ (c:Nat) (w1:World),(sB s).length≤c→Kd.C (Kd.int .u8) w1 (some ⟨W.heap.size,0,none⟩) (sB s).length (sB s)→Below W.heap.size W w1→wpList P ops Q rest (a.put o.dst (.slice (some ⟨W.heap.size,0,none⟩) (sB s).length c)) w1):wpList P ops Q (o :: rest) a W:=by
 have hrun:=run_bytes_of_string (P:=P) W src dst e s hs hd he
 have hb:Below W.heap.size W (W.drew.alloc (.cells (bytesRow s (grownCap W s.size 0 e)) e ((bytesRow s (grownCap W s.size 0 e)).size,(bytesRow s (grownCap W s.size 0 e)).size+1))):=(aKk (Below.refl _ _)).alloc (Nat.le_refl _) _
 have hcell:∀ i,(W.drew.alloc (.cells (bytesRow s (grownCap W s.size 0 e)) e ((bytesRow s (grownCap W s.size 0 e)).size,(bytesRow s (grownCap W s.size 0 e)).size+1))).cell? ⟨W.heap.size,i,none⟩=(bytesRow s (grownCap W s.size 0 e))[i]? := fun i=>by
  have:(W.drew.alloc (.cells (bytesRow s (grownCap W s.size 0 e)) e ((bytesRow s (grownCap W s.size 0 e)).size,(bytesRow s (grownCap W s.size 0 e)).size+1))).heap[W.heap.size]? = some (.cells (bytesRow s (grownCap W s.size 0 e)) e ((bytesRow s (grownCap W s.size 0 e)).size,(bytesRow s (grownCap W s.size 0 e)).size+1)):=World.alloc_heap_new W.drew _
  unfold World.cell?
  rw [this]
  rfl
 refine Kd.bdk hgd (v := .slice (some ⟨W.heap.size,0,none⟩) s.size (grownCap W s.size 0 e)) (w1:=W.drew.alloc (.cells (bytesRow s (grownCap W s.size 0 e)) e ((bytesRow s (grownCap W s.size 0 e)).size,(bytesRow s (grownCap W s.size 0 e)).size+1))) ?_ ?_
 ·simp [execOp,ho,hx,hrun]
 ·have:=h (grownCap W s.size 0 e) _ (by rw [aCk];exact grownCap_ge W s.size 0 e) ?_ hb
  ·rwa [aCk]at this
  ·refine⟨rfl,by rw [aCk];exact hsz,fun _=>⟨_,rfl,fun j p hj=>⟨[.int .u8 p],rfl,rfl,fun i u hu=>?_⟩⟩⟩
   cases i with
   |succ i=>simp at hu
   |zero=>
    simp only [List.getElem?_cons_zero,Option.some.injEq]at hu
    subst hu
    show World.cell? _ ((⟨W.heap.size,0,none⟩:Addr).add (j*1+0))=_
    rw [addr_add,Nat.mul_one,Nat.add_zero,Nat.zero_add,hcell]
    exact sB_at s _ hj
theorem Block_ev (b:List Int)(hb:b.length+20<140737488355328):Evn (fun k=>cursor_Block.f k b) (vn b.length++b):=by
 have:=avk b.length (by omega)
 unfold cursor_Block.f
 rw [aOq _ (by omega) (by omega)]
 refine Evn.bind (biz [] b.length (by simp) (by omega)) ?_
 rw [List.nil_append]
 exact Evn.pos (by omega) (Evn.pure _)
def avz (b:List Int):List Int:=vn b.length++b
theorem blockP_by {b:List Int}(h:By b):By (avz b):=By.app (fun x hx=>vn_byte _ x hx) h
theorem aKq (b:List Int)(h:b.length<128):(avz b).length=b.length+1:=by rw [avz,aHq _ h,List.length_append,List.length_singleton,Nat.add_comm]
theorem aIk (A0:Option Addr)(c0:Nat)(b:List Int)(w:World)(hr0:Kd.C (Kd.int .u8) w A0 b.length b)(hc0:b.length≤c0)(hb:b.length+20<140737488355328) :
  Calls Tryz.prog 25 #[.slice A0 b.length c0] w fun e w'=>∃ v0_:Value,e=.returned v0_∧Kd.R (Kd.int .u8) 5 w' w.heap.size (fun _=>True) v0_ (avz b)∧Below w.heap.size w w':=by
 obtain⟨k,hk⟩:=(Block_ev b hb).get
 exact cursor_Block.calls k A0 c0 b _ w hr0 hc0 hk
def derived (key:List Int)(p:Int)(s:ByteArray):List Int:=bMz key (p :: avz (sB s))
theorem aXq (key:List Int)(p:Int)(s:ByteArray):(derived key p s).length=32:=bLk _ _
set_option maxHeartbeats 2000000 in
theorem keys_Derive.calls (A0:Option Addr)(c0:Nat)(key:List Int)(p:Int)(s:ByteArray)(w:World)(hr0:Kd.C (Kd.int .u8) w A0 key.length key)(hc0:key.length≤c0)(hk:key.length=32)(hs:s.size≤64) :
  Calls Tryz.prog 62 #[.slice A0 key.length c0,.int .u8 p,.string s] w fun e w'=>∃ v,e=.returned (.tuple #[v,.int .i64 0])∧Kd.R (Kd.int .u8) 5 w' w.heap.size (fun _=>True) v (derived key p s)∧Below w.heap.size w w':=by
 have HEX:=Qz.k (fun(w1:World) (A:Option Addr) (c:Nat) (h:Below w.heap.size w w1) hr hc=>hmac_Expand.calls A0 c0 key A c (p :: avz (sB s)) w1 (Kd.acz hr0 h) hc0 hk hr hc (by have:=aKq (sB s) (by rw [aCk];omega);rw [List.length_cons,this,aCk];omega))
 have HS:=Qz.k hs
 have HBK:=Qz.k (fun(w1:World) (A:Option Addr) (c:Nat) hr hc=>aIk A c (sB s) w1 hr hc (by rw [aCk];omega))
 have HBL:=Qz.k (show(avz (sB s)).length≤65 from by rw [aKq _ (by rw [aCk];omega),aCk];omega)
 have e1:((key.length:Int) == 32)=true:=by rw [hk];rfl
 have e2:(key.length == 32)=true:=by rw [hk];rfl
 have e3:decide ((key.length:Int)=32)=true:=by rw [hk];rfl
 have e4:decide (key.length=32)=true:=by rw [hk];rfl
 have e5:decide (64<(s.size:Int))=false:=decide_eq_false (by omega)
 have e6:decide (64<s.size)=false:=decide_eq_false (by omega)
 obtain⟨D,hD⟩:∃ D,derived key p s=D:=⟨_,rfl⟩
 have HD:=Qz.k (show bMz key (p :: avz (sB s))=D from hD)
 rw [hD]
 clear hD
 generalize avz (sB s)=BL at *
 obtain⟨IN,hIN⟩:∃ IN,p :: BL=IN:=⟨_,rfl⟩
 have HIN:=Qz.k (show [p]++BL=IN from hIN)
 rw [hIN]at HEX HD
 clear hIN
 clear hr0 hc0 hk hs
 go_enter Tryz.func62,Tryz.ntmps62
 go_wp2_with (first
  |((with_reducible refine ahk (N:=18) rfl ?_);refine Kd.bwz (Kd.int .u8) _ 5 ?hg (N:=18) ?hd (xs:=([p]:List Int)) (inner:=[.int .u8 p]) (ok:=fun _=>True) (okp:=fun _=>True) ?hr ?hp (fun _ hk=>hk) trivial (Below.refl _ _) (Nat.le_refl _) (by simp) ?_;(case hd=>rfl);(case hg=>rfl);(case hr=>first|(go_simp;done)|(go_simp;rfl));(case hp=>exact(Reps.one (show Kd.M (Kd.int .u8) _ _ _ p [.int .u8 p]from rfl) (Reps.none _ _)));intro v18 w18 ho hb hg_ hnew_;have HO1:=Qz.k ho;have HB1:=Qz.k hb;clear ho hb hg_ hnew_)
  |((with_reducible refine ahk (N:=20) rfl ?_);refine bhk rfl (.tmp 19) 9 27 5 rfl rfl Tryz.underlying9 Tryz.underlying27 Tryz.underlying5 (by have:=HS.out;omega) ?_;intro c20 w20 hc hr hb;have HC20:=Qz.k hc;have HR20:=Qz.k hr;have HO2:=Qz.k (Kd.ahz HO1.out hb);have HB2:=Qz.k (aaz HB1.out hb);clear hc hr hb))
 refine(HBK.out w20 _ c20 HR20.out HC20.out).mono ?_
 rintro e w21 ⟨v21,rfl,ho,hb⟩
 obtain⟨A21,c21,e21⟩:=Kd.afz ho
 subst e21
 have HP3:=Qz.k ho
 have HO3:=Qz.k (Kd.ahz HO2.out hb)
 have HB3:=Qz.k (aaz HB2.out hb)
 clear ho hb HO2 HB2
 go_wp2_with (first
  |((with_reducible refine agk (b := .append) (xs:=#[.tmp 18,.tmp 21]) rfl ?_);at_builtin;refine Kd.ahq (Kd.int .u8) (w0:=w) w.heap.size rfl (.tmp 18) (.tmp 21) 27 5 (.int .u8 0) 1 rfl Tryz.underlying27 info5 rfl (by decide) (by omega) v18 [p] BL _ _ _ (fun _=>True) (fun _=>False) rfl rfl HO3.out (Kd.ack HP3.out).2.2 (fun _ _ h=>h) (fun _ h=>h.elim) (fun _ _=>trivial) HB3.out HB3.out.size (by have:=HBL.out;simp;omega) ?_;intro v22 w22 ho hb hg hat;rw [HIN.out]at ho;obtain⟨A22,c22,e22⟩:=Kd.afz ho;subst e22;have HO4:=Qz.k ho;have HB4:=Qz.k hb;clear ho hb hg hat))
 refine(HEX.out _ _ c22 HB4.out (Kd.ack HO4.out).2.2 (Kd.ack HO4.out).2.1).mono ?_
 rintro e w23 ⟨v23,rfl,ho,hb⟩
 rw [HD.out]at ho
 have HR5:=Qz.k (Kd.aiq ho HB4.out.size)
 have HB5:=Qz.k (aaz HB4.out hb)
 clear ho hb
 go_wp2
 go_ret2
 exact⟨_,rfl,HR5.out,HB5.out⟩
set_option maxHeartbeats 1000000 in
theorem keys_Tenant.calls (A0:Option Addr)(c0:Nat)(key:List Int)(s:ByteArray)(w:World)(hr0:Kd.C (Kd.int .u8) w A0 key.length key)(hc0:key.length≤c0)(hk:key.length=32)(hs:s.size≤64) :
  Calls Tryz.prog 31 #[.slice A0 key.length c0,.string s] w fun e w'=>∃ v,e=.returned (.tuple #[v,.int .i64 0])∧Kd.R (Kd.int .u8) 5 w' w.heap.size (fun _=>True) v (derived key 1 s)∧Below w.heap.size w w':=by
 have H:=Qz.k (keys_Derive.calls A0 c0 key 1 s w hr0 hc0 hk hs)
 generalize derived key 1 s=D at *
 clear hr0 hc0 hk hs
 go_enter Tryz.func31,Tryz.ntmps31
 go_wp2_with (fail)
 refine H.out.mono ?_
 rintro e w3 ⟨v3,rfl,ho,hb⟩
 have HO:=Qz.k ho
 have HB:=Qz.k hb
 clear ho hb H
 go_wp2
 go_ret2
 exact⟨_,rfl,HO.out,HB.out⟩
def aEz : ByteArray:=⟨#[]⟩
set_option maxHeartbeats 1000000 in
theorem keys_Seal.calls (A0:Option Addr)(c0:Nat)(key:List Int)(w:World)(hr0:Kd.C (Kd.int .u8) w A0 key.length key)(hc0:key.length≤c0)(hk:key.length=32) :
  Calls Tryz.prog 110 #[.slice A0 key.length c0] w fun e w'=>∃ v,e=.returned (.tuple #[v,.int .i64 0])∧Kd.R (Kd.int .u8) 5 w' w.heap.size (fun _=>True) v (derived key 2 aEz)∧Below w.heap.size w w':=by
 have H:=Qz.k (keys_Derive.calls A0 c0 key 2 aEz w hr0 hc0 hk (by decide))
 generalize derived key 2 aEz=D at *
 clear hr0 hc0 hk
 go_enter Tryz.func110,Tryz.ntmps110
 go_wp2_with (fail)
 refine H.out.mono ?_
 rintro e w3 ⟨v3,rfl,ho,hb⟩
 have HO:=Qz.k ho
 have HB:=Qz.k hb
 clear ho hb H
 go_wp2
 go_ret2
 exact⟨_,rfl,HO.out,HB.out⟩
set_option maxHeartbeats 1000000 in
theorem keys_Manifest.calls (A0:Option Addr)(c0:Nat)(key:List Int)(w:World)(hr0:Kd.C (Kd.int .u8) w A0 key.length key)(hc0:key.length≤c0)(hk:key.length=32) :
  Calls Tryz.prog 50 #[.slice A0 key.length c0] w fun e w'=>∃ v,e=.returned (.tuple #[v,.int .i64 0])∧Kd.R (Kd.int .u8) 5 w' w.heap.size (fun _=>True) v (derived key 4 aEz)∧Below w.heap.size w w':=by
 have H:=Qz.k (keys_Derive.calls A0 c0 key 4 aEz w hr0 hc0 hk (by decide))
 generalize derived key 4 aEz=D at *
 clear hr0 hc0 hk
 go_enter Tryz.func50,Tryz.ntmps50
 go_wp2_with (fail)
 refine H.out.mono ?_
 rintro e w3 ⟨v3,rfl,ho,hb⟩
 have HO:=Qz.k ho
 have HB:=Qz.k hb
 clear ho hb H
 go_wp2
 go_ret2
 exact⟨_,rfl,HO.out,HB.out⟩
theorem a2k (n:Nat)(hn:n≤8)(v:Int)(w:World) :
  Calls Tryz.prog 96 #[.int .u64 v,.int .i64 (n:Int)] w fun e w'=>∃ v0_:Value,e=.returned v0_∧Kd.R (Kd.int .u8) 5 w' w.heap.size (fun _=>True) v0_ (fixB n v)∧Below w.heap.size w w':=by
 obtain⟨k,hk⟩:=(bSk v n hn).get
 exact cursor_Fix.calls k v (n:Int) _ w hk
theorem fixB_by (n:Nat)(v:Int):By (fixB n v):=b2z v n
set_option maxHeartbeats 2000000 in
theorem keys_Nonce.calls (A0:Option Addr)(c0:Nat)(key:List Int)(v:Int)(i:Nat)(w:World)(hr0:Kd.C (Kd.int .u8) w A0 key.length key)(hc0:key.length≤c0)(hk:key.length=32)(hi:i<1048576) :
  Calls Tryz.prog 111 #[.slice A0 key.length c0,.int .u64 v,.int .i64 (i:Int)] w fun e w'=>∃ (v0_:Value) (r:List Int),e=.returned (.tuple #[v0_,.int .i64 0])∧r.length=12∧Kd.R (Kd.int .u8) 5 w' w.heap.size (fun _=>True) v0_ r∧Below w.heap.size w w':=by
 have H:=Qz.k (keys_Derive.calls A0 c0 key 3 aEz w hr0 hc0 hk (by decide))
 have HDL:=Qz.k (aXq key 3 aEz)
 have HF8:=Qz.k (fun(x:Int) (w1:World)=>a2k 8 (by decide) x w1)
 have HF4:=Qz.k (fun(x:Int) (w1:World)=>a2k 4 (by decide) x w1)
 generalize derived key 3 aEz=D at *
 have g1:decide ((i:Int)<0)=false:=decide_eq_false (by omega)
 have g2:decide (1048576≤(i:Int))=false:=decide_eq_false (by omega)
 have g3:¬ (i:Int)<0:=by omega
 have g4:(i:Int)<1048576:=by omega
 clear hr0 hc0 hk hi
 go_enter Tryz.func111,Tryz.ntmps111
 go_wp2_with (fail)
 refine H.out.mono ?_
 rintro e w3 ⟨v3,rfl,ho,hb⟩
 obtain⟨A3,c3,e3⟩:=Kd.afz ho
 subst e3
 have HO:=Qz.k ho
 have HB:=Qz.k hb
 clear ho hb H
 go_wp2_with (fail)
 refine(HF8.out _ _).mono ?_
 rintro e w4 ⟨v4,rfl,ho,hb⟩
 have HO4:=Qz.k (Kd.ahz HO.out hb)
 have HP4:=Qz.k (Kd.aiq ho HB.out.size)
 have HN4:=Qz.k (bgk (v1:=v4) (v2 := .slice A3 D.length c3) (n:=w3.heap.size) (fun k hk=>((Kd.axz ho).1 k hk).2.1) (fun k hk=>Kd.R_lt HO.out k hk))
 have HB4:=Qz.k (aaz HB.out hb)
 clear ho hb HO HB
 go_wp2_with (fail)
 refine(HF4.out _ _).mono ?_
 rintro e w5 ⟨v5,rfl,ho,hb⟩
 obtain⟨A5,c5,e5⟩:=Kd.afz ho
 subst e5
 have HO5:=Qz.k (Kd.ahz HO4.out hb)
 have HP5:=Qz.k (Kd.ahz HP4.out hb)
 have HQ5:=Qz.k ho
 have HB5:=Qz.k (aaz HB4.out hb)
 clear ho hb HO4 HP4 HB4
 have HL1:=Qz.k (ank v 8)
 have HL2:=Qz.k (ank (i:Int) 4)
 obtain⟨L,hL⟩:∃ L,fixB 8 v++fixB 4 (i:Int)=L:=⟨_,rfl⟩
 have HLE:=Qz.k hL
 have HLL:=Qz.k (show L.length<1099511627776 from by rw [←hL,List.length_append,HL1.out,HL2.out];decide)
 clear hL
 go_wp2_with (first
  |((with_reducible refine agk (b := .append) (xs:=#[.tmp 27,.tmp 30]) rfl ?_);at_builtin;refine Kd.ahq (Kd.int .u8) (w0:=w) w.heap.size rfl (.tmp 27) (.tmp 30) 27 5 (.int .u8 0) 1 rfl Tryz.underlying27 info5 rfl (by decide) (by omega) v4 (fixB 8 v) (fixB 4 (i:Int)) _ _ _ (fun _=>True) (fun _=>False) rfl rfl HP5.out (Kd.ack HQ5.out).2.2 (fun _ _ h=>h) (fun _ h=>h.elim) (fun _ _=>trivial) HB5.out HB5.out.size (by rw [HL1.out,HL2.out];decide) ?_;intro v6 w6 ho hb hg hat;rw [HLE.out]at ho;obtain⟨A6,c6,e6⟩:=Kd.afz ho;subst e6;have HP6:=Qz.k ho;have HO6:=Qz.k (Kd.R_grown2 HO5.out rfl hg (fun k hk=>atom_of HN4.out hk));have HB6:=Qz.k hb;clear ho hb hg hat))
 refine(hmac_MAC.calls A3 c3 D A6 c6 L _ (Kd.ack HO6.out).2.2 (Kd.ack HO6.out).2.1 HDL.out (Kd.ack HP6.out).2.2 (Kd.ack HP6.out).2.1 HLL.out).mono ?_
 rintro e w7 ⟨v7,rfl,ho,hb⟩
 have HML:=Qz.k (aGq D [L])
 generalize aDz D [L]=M at *
 obtain⟨ad,c7,e7⟩:=Kd.a0k ho (by rw [HML.out];decide)
 subst e7
 have HR7:=Qz.k (Kd.aiq ho HB6.out.size)
 have HB7:=Qz.k (aaz HB6.out hb)
 have n1:(12:Int)≤(c7:Int):=by have:=(Kd.ack ho).2.1;rw [HML.out]at this;omega
 have n2:12≤c7:=by omega
 clear ho hb
 go_wp2
 go_ret2
 have HT:=Kd.R_take (m:=12) HR7.out (by rw [HML.out];decide)
 exact⟨_,_,rfl,by rw [List.length_take,HML.out];rfl,HT,HB7.out⟩
theorem zeros_bytes (m:Nat):(Builtin.zeroCells (Value.int .u8 0).cells m).toList=List.replicate m (Value.int .u8 0):=by
 refine List.eq_replicate_iff.2 ⟨by simp [Builtin.zeroCells,Value.cells],fun x hx=>?_⟩
 simp [Builtin.zeroCells,Value.cells]at hx
 obtain⟨i,_,rfl⟩:=hx
 simp [Nat.mod_one]
set_option maxHeartbeats 2000000 in
theorem grow_nil (n:Nat)(hn:n<1099511627776)(w:World) :
  Calls Tryz.prog 54 #[.slice none 0 0,.int .i64 (n:Int)] w fun e w'=>∃ v:Value,e=.returned v∧Kd.R (Kd.int .u8) 5 w' w.heap.size (fun _=>True) v ([]:List Int)∧Below w.heap.size w w':=by
 have HN:=Qz.k hn
 by_cases h0:n=0
 ·subst h0
  clear hn
  go_enter Tryz.func54,Tryz.ntmps54
  go_wp2
  go_ret
  exact⟨_,rfl,Kd.ayz _ _ _ _ _,Below.refl _ _⟩
 ·have g1:decide ((n:Int)<0)=false:=decide_eq_false (by omega)
  have g2:decide (0<(n:Int))=true:=decide_eq_true (by omega)
  have g3:decide (0<n)=true:=decide_eq_true (by omega)
  have g4:(n:Int)<1099511627776:=by omega
  have HP:=Qz.k (show 0<n from by omega)
  have g5:wrap64 (n:Int)=(n:Int):=agq (by omega) (by omega)
  have HG5:=Qz.k g5
  clear hn g4 h0
  go_enter Tryz.func54,Tryz.ntmps54
  go_wp2_with (first
   |((with_reducible refine agk (b := .append) (xs:=#[.tmp 20,.tmp 21]) rfl ?_);at_builtin;refine bjq (w0:=w) w.heap.size rfl (.tmp 20) (.tmp 21) 27 3 5 .i64 .i64 1 rfl Tryz.underlying27 Tryz.underlying3 info5 (.slice none 0 0) [] n HP.out (zeros_bytes n) rfl (by first|rfl|exact congrArg (Value.int .i64) HG5.out) (Kd.ayz _ _ _ _ _) (Below.refl _ _) (Nat.le_refl _) (by have:=HN.out;simp;omega) (by have:=HN.out;simp;omega) ?_;intro v22 w22 ho hb hg;rw [List.nil_append]at ho;obtain⟨ad,c22,e22⟩:=Kd.a0k ho (by rw [List.length_replicate];exact HP.out);subst e22;have HO:=Qz.k ho;have HB:=Qz.k hb;clear ho hb hg))
  go_ret
  exact⟨_,rfl,Kd.R_take (m:=0) HO.out (Nat.zero_le _),HB.out⟩
def lens (ls:List (List Int)):Nat→Nat
 | 0=>0
 |j+1=>lens ls j+(aDq ls (j:Int)).length
def cats (ls:List (List Int)):Nat→List Int
 | 0=>[]
 |j+1=>cats ls j++aDq ls (j:Int)
theorem bEk (ls:List (List Int)):∀ j,(cats ls j).length=lens ls j
 | 0=>rfl
 |j+1=>by rw [cats,lens,List.length_append,bEk ls j]
theorem lens_le {ls:List (List Int)}(hb:∀ b∈ls,b.length<16777216):∀ j,j≤ls.length→lens ls j≤j*16777216
 | 0,_=>Nat.le_refl _
 |j+1,hj=>by
  have h1:=lens_le hb j (by omega)
  have h2:=hb _ (bDk (ls:=ls) (j:=j) (by omega))
  rw [lens]
  omega
set_option maxHeartbeats 2000000 in
theorem slices_Concat.calls (A0:Option Addr)(c0:Nat)(ls:List (List Int))(w:World)(hr0:Kd.C (Kd.slice 5 (Kd.int .u8)) w A0 ls.length ls)(hl:ls.length≤8)(hb:∀ b∈ls,b.length<16777216) :
  Calls Tryz.prog 26 #[.slice A0 ls.length c0] w fun e w'=>∃ v0_:Value,e=.returned v0_∧Kd.R (Kd.int .u8) 5 w' w.heap.size (fun _=>True) v0_ (cats ls ls.length)∧Below w.heap.size w w':=by
 have HR:=Qz.k hr0
 have HL8:=Qz.k hl
 have HLE:=Qz.k (fun j hj=>lens_le hb j hj)
 have HBJ:=Qz.k (fun(j:Nat) (hj:j<ls.length)=>hb _ (bDk hj))
 clear hr0 hl hb
 go_enter Tryz.func26,Tryz.ntmps26
 go_wp2
 go_loopg [3,5,11] ls.length (fun kq v3 v5 v11 W'=>∃ j:Nat,v11=.int .i64 (j:Int)∧v3=.int .i64 ((lens ls j:Nat):Int)∧kq=ls.length-j∧j≤ls.length∧w=W')
 case atStart=>exact⟨0,rfl,rfl,rfl,by omega,rfl⟩
 case round=>
  obtain⟨j,rfl,rfl,rfl,hj,rfl⟩:=hrel
  have HNJ:=Qz.k (HLE.out j hj)
  have HLN:=Qz.k (show lens ls j≤134217728 from Nat.le_trans HNJ.out (Nat.le_trans (Nat.mul_le_mul_right _ (show j≤8 from by have:=HL8.out;omega)) (by decide)))
  by_cases hlt:j<ls.length
  ·have c5:decide ((j:Int)<(ls.length:Int))=true:=decide_eq_true (by omega)
   have c6:decide (j<ls.length)=true:=decide_eq_true hlt
   have n0:(j:Int)<8:=by have:=HL8.out;omega
   have HW:=Qz.k (show wrap64 ((j:Int)+1)=((j+1:Nat):Int)from by rw [agq (by omega) (by omega)];omega)
   obtain⟨ad,Aj,cj,e5,hxj,hlj,hij⟩:=bVk HR.out (j:Int) (by omega) (by omega)
   subst e5
   rw [Int.toNat_natCast]at hxj
   have HLB:=Qz.k (HBJ.out j hlt)
   have HSU:=Qz.k (show lens ls (j+1)=lens ls j+(aDq ls (j:Int)).length from rfl)
   generalize aDq ls (j:Int)=b at *
   generalize lens ls j=L at *
   have m1:wrap64 ((L:Int)+(b.length:Int))=((L+b.length:Nat):Int):=by have:=HLN.out;have:=HLB.out;rw [agq (by omega) (by omega)];omega
   have m2:decide (((L+b.length:Nat):Int)<0)=false:=decide_eq_false (by omega)
   have m3:¬ ((L:Int)+(b.length:Int)<0):=by omega
   clear hlj hij
   go_wp2
   go_roundg (ls.length-(j+1))
   case measure=>exact(by omega)
   case rel=>
    (try rw [HW.out])
    exact⟨j+1,rfl,by rw [HSU.out];(try rw [m1]);(try rfl),rfl,hlt,rfl⟩
  ·have c5:decide ((j:Int)<(ls.length:Int))=false:=decide_eq_false (by omega)
   have c6:decide (j<ls.length)=false:=decide_eq_false hlt
   obtain rfl:j=ls.length:=by omega
   generalize lens ls ls.length=L at *
   go_wp2_with (fail)
   refine(grow_nil L (by have:=HLN.out;omega) _).mono ?_
   rintro e w4 ⟨v4,rfl,ho,hb⟩
   have HO4:=Qz.k ho
   have HB4:=Qz.k hb
   clear ho hb c5 c6 hj hlt
   go_wp2
   go_loopg [6,8,27] ls.length (fun kq v6 v8 v27 W'=>∃ j:Nat,v27=.int .i64 (j:Int)∧kq=ls.length-j∧j≤ls.length∧Qz (Kd.R (Kd.int .u8) 5 W' w.heap.size (fun _=>True) v6 (cats ls j))∧Qz (Below w.heap.size w W'))
   case atStart=>exact⟨0,rfl,rfl,by omega,HO4,HB4⟩
   case round=>
    clear HO4 HB4
    obtain⟨j,rfl,rfl,hj,HO,HB⟩:=hrel
    have HNJ2:=Qz.k (HLE.out j hj)
    have HCL:=Qz.k (show(cats ls j).length≤134217728 from by rw [bEk];exact Nat.le_trans HNJ2.out (Nat.le_trans (Nat.mul_le_mul_right _ (show j≤8 from by have:=HL8.out;omega)) (by decide)))
    by_cases hlt:j<ls.length
    ·have c5:decide ((j:Int)<(ls.length:Int))=true:=decide_eq_true (by omega)
     have c6:decide (j<ls.length)=true:=decide_eq_true hlt
     have n0:(j:Int)<8:=by have:=HL8.out;omega
     have HW:=Qz.k (show wrap64 ((j:Int)+1)=((j+1:Nat):Int)from by rw [agq (by omega) (by omega)];omega)
     obtain⟨ad,Aj,cj,e5,hxj,hlj,hij⟩:=bVk HR.out (j:Int) (by omega) (by omega)
     subst e5
     rw [Int.toNat_natCast]at hxj
     replace hxj:=(HB.out.cell (World.block_lt_of_cell? w _ hxj)).trans hxj
     have HLB:=Qz.k (HBJ.out j hlt)
     have HSU:=Qz.k (show cats ls j++aDq ls (j:Int)=cats ls (j+1)from rfl)
     generalize aDq ls (j:Int)=b at *
     generalize cats ls j=X at *
     have HCJ:=Qz.k (Kd.acz hij HB.out)
     clear hlj hij
     go_wp2_with (first
      |((with_reducible refine agk (b := .append) (xs:=#[.tmp 31,.tmp 32]) rfl ?_);at_builtin;refine Kd.ahq (Kd.int .u8) (w0:=w) w.heap.size rfl (.tmp 31) (.tmp 32) 27 5 (.int .u8 0) 1 rfl Tryz.underlying27 info5 rfl (by decide) (by omega) _ X b _ _ _ (fun _=>True) (fun _=>False) rfl rfl HO.out HCJ.out (fun _ _ h=>h) (fun _ h=>h.elim) (fun _ _=>trivial) HB.out HB.out.size (by have:=HCL.out;have:=HLB.out;omega) ?_;intro v14 w14 ho hb hg hat;rw [HSU.out]at ho;have HB9:=Qz.k hb;have HO9:=Qz.k ho;clear ho hb hg hat))
     go_roundg (ls.length-(j+1))
     case measure=>exact(by omega)
     case rel=>
      (try rw [HW.out])
      exact⟨j+1,rfl,rfl,hlt,HO9,HB9⟩
    ·have c5:decide ((j:Int)<(ls.length:Int))=false:=decide_eq_false (by omega)
     have c6:decide (j<ls.length)=false:=decide_eq_false hlt
     obtain rfl:j=ls.length:=by omega
     go_wp2
     go_ret
     exact⟨_,rfl,HO.out,HB.out⟩
set_option maxHeartbeats 2000000 in
theorem place_both.calls (A0:Option Addr)(c0:Nat)(t:List Int)(ver:Int)(i:Nat)(w:World)(hr0:Kd.C (Kd.int .u8) w A0 t.length t)(hc0:t.length≤c0)(hk:t.length=32)(hi:i<1048576) :
  Calls Tryz.prog 63 #[.agg #[.slice A0 t.length c0,.int .u64 ver,.int .i64 (i:Int)]] w fun e w'=>∃ (vk vn:Value) (n:List Int),e=.returned (.tuple #[vk,vn,.int .i64 0])∧n.length=12∧Kd.R (Kd.int .u8) 5 w' w.heap.size (fun _=>True) vk (derived t 2 aEz)∧Kd.R (Kd.int .u8) 5 w' w.heap.size (fun _=>True) vn n∧Below w.heap.size w w':=by
 have HSL:=Qz.k (fun(w1:World) (h:Below w.heap.size w w1)=>keys_Seal.calls A0 c0 t w1 (Kd.acz hr0 h) hc0 hk)
 have HNC:=Qz.k (fun(w1:World) (h:Below w.heap.size w w1)=>keys_Nonce.calls A0 c0 t ver i w1 (Kd.acz hr0 h) hc0 hk hi)
 generalize derived t 2 aEz=D at *
 clear hr0 hc0 hk hi
 go_enter Tryz.func63,Tryz.ntmps63
 have HBA:=Qz.k (aaq (Below.refl w.heap.size w) (.cells #[.slice A0 t.length c0,.int .u64 ver,.int .i64 (i:Int)] 107))
 go_wp2_with (fail)
 refine(HSL.out _ HBA.out).mono ?_
 rintro e w3 ⟨v3,rfl,ho,hb⟩
 obtain⟨A3,c3,e3⟩:=Kd.afz ho
 subst e3
 have hc0:w3.cell? ⟨w.heap.size,0,none⟩=some (.slice A0 t.length c0):=abz hb ((aak (akz w _) 0).trans rfl)
 have hc1:w3.cell? ⟨w.heap.size,1,none⟩=some (.int .u64 ver):=abz hb ((aak (akz w _) 1).trans rfl)
 have hc2:w3.cell? ⟨w.heap.size,2,none⟩=some (.int .i64 (i:Int)):=abz hb ((aak (akz w _) 2).trans rfl)
 have HO:=Qz.k (Kd.aiq ho HBA.out.size)
 have HB:=Qz.k (aaz HBA.out hb)
 clear ho hb
 go_wp2_with (fail)
 refine(HNC.out _ HB.out).mono ?_
 rintro e w4 ⟨v4,n,rfl,hn,ho,hb⟩
 have HN:=Qz.k hn
 have HO4:=Qz.k (Kd.ahz HO.out hb)
 have HP4:=Qz.k (Kd.aiq ho HB.out.size)
 have HB4:=Qz.k (aaz HB.out hb)
 clear ho hb hn hc0 hc1 hc2 HO HB
 go_wp2
 go_ret3
 exact⟨_,_,_,rfl,HN.out,HO4.out,HP4.out,HB4.out⟩
theorem bPz {P:Program}{ops:Array Oper}{o:Oper}{a:Act}{Q:Exit→Act→World→Prop}{Kc:Act→World→Prop}{W:World}(hw:Region.wanted o (yielded ops a.tmps)=true)(x:Operand)(src dst e:TypeId)(ho:o.op=.convert src dst x){s:ByteArray}(hx:a.eval x=.string s)
  (hs:P.underlying src=some .string) (hd:P.underlying dst=some (.slice e)) (he:P.underlying e=some (.int .u8)) (hsz:s.size≤9223372036854775807)
  (h:∀ (c:Nat) (w1:World),(sB s).length≤c→Kd.C (Kd.int .u8) w1 (some ⟨W.heap.size,0,none⟩) (sB s).length (sB s)→Below W.heap.size W w1→Kc (a.put o.dst (.slice (some ⟨W.heap.size,0,none⟩) (sB s).length c)) w1):if Region.wanted o (yielded ops a.tmps)=true then Oper.wp P o a W Kc Q else Kc (a.put o.dst undef) W:=by
 have hk:∃ (c:Nat) (w1:World),(execOp a.eval o).run P W=.ok (.value (.slice (some ⟨W.heap.size,0,none⟩) (sB s).length c)) w1∧(sB s).length≤c∧Kd.C (Kd.int .u8) w1 (some ⟨W.heap.size,0,none⟩) (sB s).length (sB s)∧Below W.heap.size W w1:=by
  have hrun:=run_bytes_of_string (P:=P) W src dst e s hs hd he
  have hb:Below W.heap.size W (W.drew.alloc (.cells (bytesRow s (grownCap W s.size 0 e)) e ((bytesRow s (grownCap W s.size 0 e)).size,(bytesRow s (grownCap W s.size 0 e)).size+1))):=(aKk (Below.refl _ _)).alloc (Nat.le_refl _) _
  have hcell:∀ i,(W.drew.alloc (.cells (bytesRow s (grownCap W s.size 0 e)) e ((bytesRow s (grownCap W s.size 0 e)).size,(bytesRow s (grownCap W s.size 0 e)).size+1))).cell? ⟨W.heap.size,i,none⟩=(bytesRow s (grownCap W s.size 0 e))[i]? := fun i=>by
   have:(W.drew.alloc (.cells (bytesRow s (grownCap W s.size 0 e)) e ((bytesRow s (grownCap W s.size 0 e)).size,(bytesRow s (grownCap W s.size 0 e)).size+1))).heap[W.heap.size]? = some (.cells (bytesRow s (grownCap W s.size 0 e)) e ((bytesRow s (grownCap W s.size 0 e)).size,(bytesRow s (grownCap W s.size 0 e)).size+1)):=World.alloc_heap_new W.drew _
   unfold World.cell?
   rw [this]
   rfl
  refine⟨grownCap W s.size 0 e,_,?_,by rw [aCk];exact grownCap_ge W s.size 0 e,?_,hb⟩
  ·rw [aCk]
   simp [execOp,ho,hx,hrun]
  ·refine⟨rfl,by rw [aCk];exact hsz,fun _=>⟨_,rfl,fun j p hj=>⟨[.int .u8 p],rfl,rfl,fun i u hu=>?_⟩⟩⟩
   cases i with
   |succ i=>simp at hu
   |zero=>
    simp only [List.getElem?_cons_zero,Option.some.injEq]at hu
    subst hu
    show World.cell? _ ((⟨W.heap.size,0,none⟩:Addr).add (j*1+0))=_
    rw [addr_add,Nat.mul_one,Nat.add_zero,Nat.zero_add,hcell]
    exact sB_at s _ hj
 obtain⟨c,w1,hrun,hc,hr,hb⟩:=hk
 exact bhq hw hrun (h c w1 hc hr hb)
def a7z (ver:Int)(i:Int)(s:ByteArray):List Int:=cats [fixB 8 ver,fixB 4 i,avz (sB s)] 3
theorem bQq (ver i:Int)(s:ByteArray):a7z ver i s=fixB 8 ver++(fixB 4 i++avz (sB s)):=by
 show(([]++fixB 8 ver)++fixB 4 i)++avz (sB s)=_
 rw [List.nil_append,List.append_assoc]
theorem besideOf_by (ver i:Int)(s:ByteArray):By (a7z ver i s):=by
 rw [bQq]
 exact(fixB_by _ _).app ((fixB_by _ _).app (blockP_by (sB_by s)))
theorem besideOf_len (ver i:Int)(s:ByteArray)(hs:s.size=3):(a7z ver i s).length=16:=by
 rw [bQq,List.length_append,List.length_append,ank,ank,aKq _ (by rw [aCk];omega),aCk,hs]
def place_beside.T1 : Bool×List (List Nat×List Nat):=(true,[([],[]),([0],[0]),([1],[1]),([],[]),([3],[3]),([4],[4]),([5,2],[5]),([],[]),([7],[7]),([8,6],[8]),([2,6,9],[2,6,9]),([10,9],[10]),([11,11,0,1,2,3,4,5,6,7,8,9,10,11],[11])])
def place_beside.B1 : List Nat:=[0,1,3,0,8,24,63,0,128,511,1023,2047,4095]
theorem place_beside.tab1 : rtab .any (opsOf Tryz.f65 1)=place_beside.T1:=by kernel_rfl
theorem place_beside.bits1 : aLq place_beside.T1.2 place_beside.B1=true:=by kernel_rfl
set_option maxHeartbeats 2000000 in
theorem place_beside.calls (A0:Option Addr)(n0 c0:Nat)(ver:Int)(i:Nat)(s:ByteArray)(w:World)(hi:i<1048576)(hs:s.size≤64) :
  Calls Tryz.prog 65 #[.agg #[.slice A0 n0 c0,.int .u64 ver,.int .i64 (i:Int)],.string s] w fun e w'=>∃ v0_:Value,e=.returned v0_∧Kd.R (Kd.int .u8) 5 w' w.heap.size (fun _=>True) v0_ (a7z ver (i:Int) s)∧Below w.heap.size w w':=by
 have HSZ:=Qz.k (show s.size≤9223372036854775807 from by omega)
 have HF8:=Qz.k (show ∀ (x:Int) (w1:World),Calls Tryz.prog 96 #[.int .u64 x,.int .i64 8] w1 fun e w'=>∃ v0_:Value,e=.returned v0_∧Kd.R (Kd.int .u8) 5 w' w1.heap.size (fun _=>True) v0_ (fixB 8 x)∧Below w1.heap.size w1 w' from fun(x:Int) (w1:World)=>a2k 8 (by decide) x w1)
 have HF4:=Qz.k (show ∀ (x:Int) (w1:World),Calls Tryz.prog 96 #[.int .u64 x,.int .i64 4] w1 fun e w'=>∃ v0_:Value,e=.returned v0_∧Kd.R (Kd.int .u8) 5 w' w1.heap.size (fun _=>True) v0_ (fixB 4 x)∧Below w1.heap.size w1 w' from fun(x:Int) (w1:World)=>a2k 4 (by decide) x w1)
 have HBK:=Qz.k (fun(w1:World) (A:Option Addr) (c:Nat) hr hc=>aIk A c (sB s) w1 hr hc (by rw [aCk];omega))
 have HCC:=Qz.k (show ∀ (w1:World) (A:Option Addr),Kd.C (Kd.slice 5 (Kd.int .u8)) w1 A 3 [fixB 8 ver,fixB 4 (i:Int),avz (sB s)]→Calls Tryz.prog 26 #[.slice A 3 3] w1 fun e w'=>∃ v0_:Value,e=.returned v0_∧Kd.R (Kd.int .u8) 5 w' w1.heap.size (fun _=>True) v0_ (a7z ver (i:Int) s)∧Below w1.heap.size w1 w' from fun w1 A h=>slices_Concat.calls A 3 [fixB 8 ver,fixB 4 (i:Int),avz (sB s)] w1 h (show 3≤8 by decide) (fun b hb=>by
  simp only [List.mem_cons,List.not_mem_nil,or_false]at hb
  rcases hb with rfl|rfl|rfl
  ·rw [ank];decide
  ·rw [ank];decide
  ·rw [aKq _ (by rw [aCk];omega),aCk];omega))
 have n1:(i:Int)<1048576:=by omega
 have HWI:=Qz.k (show IntKind.u64.wrap (i:Int)=(i:Int)from aOq _ (by omega) (by omega))
 generalize a7z ver (i:Int) s=C at *
 have HX:=Qz.k (HF8.out ver)
 have HY:=Qz.k (HF4.out (i:Int))
 clear HF8 HF4
 generalize fixB 8 ver=X at *
 generalize fixB 4 (i:Int)=Y at *
 generalize avz (sB s)=Z at *
 clear hi hs
 go_enter Tryz.func65,Tryz.ntmps65
 go_upto_region 1 with(fail)
 have HB:=Qz.k (aaq (Below.refl w.heap.size w) (.cells #[.slice A0 n0 c0,.int .u64 ver,.int .i64 (i:Int)] 107))
 have FC1:=Qz.k (show(w.alloc (.cells #[.slice A0 n0 c0,.int .u64 ver,.int .i64 (i:Int)] 107)).cell? ⟨w.heap.size,1,none⟩=some (.int .u64 ver)from(aak (akz w _) 1).trans rfl)
 have FC2:=Qz.k (show(w.alloc (.cells #[.slice A0 n0 c0,.int .u64 ver,.int .i64 (i:Int)] 107)).cell? ⟨w.heap.size,2,none⟩=some (.int .i64 (i:Int))from(aak (akz w _) 2).trans rfl)
 generalize w.alloc (.cells #[.slice A0 n0 c0,.int .u64 ver,.int .i64 (i:Int)] 107)=w2 at *
 refine axq (n:=13) (S:=fun w'=>True) (ds:=[]) (bl 13 0) (by kernel_rfl) rfl rfl trivial (fun hHeld=>?_)
 refine aNk place_beside.tab1 place_beside.bits1 (fun HT_ HW_=>?_)
 refine pu_ 0 5 ?_ ?_ (bl 13 1) rfl rfl (amq HT_.out (by kernel_rfl)) ?_ ?_ ?_
 rotate_left 2
 ·intro w';go_simp;with_reducible rfl
 ·simp only [Act.put,putA,putZ,putS,abq,abk];rfl
 refine pu_ 3 8 ?_ ?_ (bl 13 9) rfl rfl (amq HT_.out (by kernel_rfl)) ?_ ?_ ?_
 rotate_left 2
 ·intro w';go_simp;with_reducible rfl
 ·simp only [Act.put,putA,putZ,putS,abq,abk];rfl
 refine pu_ 7 12 ?_ ?_ (bl 13 137) rfl rfl (amq HT_.out (by kernel_rfl)) ?_ ?_ ?_
 rotate_left 2
 ·intro w';go_simp;with_reducible rfl
 ·simp only [Act.put,putA,putZ,putS,abq,abk];rfl
 refine inv_at [1,2,4,5,6,8,9,10,11,12] (fun a0_ b a w'=>∃ (v7:Value) (v11:Value) (v14:Value) (v16:Value) (g13:Nat) (c13:Nat) (g15:Nat) (m8_:Value) (m10_:Value) (m12_:Value),a=awk a0_ b [(1,6,.int .u64 ver),(2,7,v7),(4,9,.int .i64 (i:Int)),(5,10,.int .u64 (i:Int)),(6,11,v11),(8,13,m8_),(9,14,v14),(10,15,m10_),(11,16,v16),(12,4,m12_)]∧(Below w.heap.size w w')∧(w'.cell? ⟨w.heap.size,1,none⟩=some (.int .u64 ver))∧(w'.cell? ⟨w.heap.size,2,none⟩=some (.int .i64 (i:Int)))∧(b 2=true→Kd.R (Kd.int .u8) 5 w' w.heap.size (fun _=>True) v7 X)∧(b 6=true→Kd.R (Kd.int .u8) 5 w' w.heap.size (fun _=>True) v11 Y)∧(b 8=true→Kd.C (Kd.int .u8) w' (some ⟨g13,0,none⟩) (sB s).length (sB s)∧(sB s).length≤c13)∧(b 9=true→Kd.R (Kd.int .u8) 5 w' w.heap.size (fun _=>True) v14 Z)∧(b 10=true→Kd.C (Kd.slice 5 (Kd.int .u8)) w' (some ⟨g15,0,none⟩) 3 [X,Y,Z])∧(b 11=true→Kd.R (Kd.int .u8) 5 w' w.heap.size (fun _=>True) v16 C)∧(b 8=true→(m8_:Value)=.slice (some ⟨g13,0,none⟩) (sB s).length c13)∧(b 10=true→(m10_:Value)=.slice (some ⟨g15,0,none⟩) 3 3)∧(b 12=true→(m12_:Value)=v16)) HT_.out HW_.out (by kernel_rfl) (by kernel_rfl) ?_ ?_ ?_
 ·exact⟨.bool false,.bool false,.bool false,.bool false,0,0,0,.bool false,.bool false,.bool false,by simp only [awk,Bool.false_eq_true,if_false],(aez HB.out),FC1.out,FC2.out,fun h_=>absurd h_ (by decide),fun h_=>absurd h_ (by decide),fun h_=>absurd h_ (by decide),fun h_=>absurd h_ (by decide),fun h_=>absurd h_ (by decide),fun h_=>absurd h_ (by decide),fun h_=>absurd h_ (by decide),fun h_=>absurd h_ (by decide),fun h_=>absurd h_ (by decide)⟩
 ·skip
  clear FC1 FC2 HB
  refine ajz ?_ ?_
  ·rintro b a w' ⟨v7,v11,v14,v16,g13,c13,g15,m8_,m10_,m12_,ha,Q_HB,Q_FC1,Q_FC2,Q_F7,Q_F11,Q_F13,Q_F14,Q_F15,Q_F16,Q_X8_,Q_X10_,Q_X12_⟩ hb_ hon hoff
   refine⟨_,rfl,fun K hK=>?_⟩
   have e5:a.tmps[5]? = some (.pointer (some ⟨w.heap.size,1,none⟩)):=by rw [ha];exact(auz rfl).trans rfl
   replace ha:=Qz.k ha
   have HB:=Qz.k Q_HB
   have FC1:=Qz.k Q_FC1
   have FC2:=Qz.k Q_FC2
   have hc1:=FC1.out
   have hv5:=apq e5
   refine aAq (w1:=w') (v := .int .u64 ver) (by rfl) rfl ?_ ?_
   ·go_simp
    (try simp only [abq])
    try rfl
   refine hK.out _ _ ⟨v7,v11,v14,v16,g13,c13,g15,m8_,m10_,m12_,(by rw [ha.out];exact ajk 0 hb_ rfl rfl rfl),Q_HB,Q_FC1,Q_FC2,fun h0_=>absurd ((hoff 2 (by kernel_rfl)).symm.trans h0_) (by decide),fun h0_=>absurd ((hoff 6 (by kernel_rfl)).symm.trans h0_) (by decide),Q_F13,fun h0_=>absurd ((hoff 9 (by kernel_rfl)).symm.trans h0_) (by decide),fun h0_=>absurd ((hoff 10 (by kernel_rfl)).symm.trans h0_) (by decide),fun h0_=>absurd ((hoff 11 (by kernel_rfl)).symm.trans h0_) (by decide),Q_X8_,fun h0_=>absurd ((hoff 10 (by kernel_rfl)).symm.trans h0_) (by decide),fun h0_=>absurd ((hoff 12 (by kernel_rfl)).symm.trans h0_) (by decide)⟩
  refine ajz ?_ ?_
  ·rintro b a w' ⟨v7,v11,v14,v16,g13,c13,g15,m8_,m10_,m12_,ha,Q_HB,Q_FC1,Q_FC2,Q_F7,Q_F11,Q_F13,Q_F14,Q_F15,Q_F16,Q_X8_,Q_X10_,Q_X12_⟩ hb_ hon hoff
   refine⟨_,rfl,fun K hK=>?_⟩
   have e6:a.tmps[6]? = some (.int .u64 ver):=by rw [ha];exact alq (e:=(1,6,.int .u64 ver)) 0 rfl rfl (hon 1 (by kernel_rfl)) rfl
   replace ha:=Qz.k ha
   have HB:=Qz.k Q_HB
   have FC1:=Qz.k Q_FC1
   have FC2:=Qz.k Q_FC2
   refine aFq Tryz.func96 (by kernel_rfl) rfl #[.int .u64 ver,.int .i64 8] (by rfl) rfl rfl (by simp only [List.map_toArray,List.map_cons,List.map_nil,Act.eval,Array.getD_eq_getD_getElem?,e6,Option.getD_some]) ?_
   with_reducible refine(HX.out w').mono ?_
   rintro e w3 ⟨u,rfl,ho,hb⟩
   refine⟨_,rfl,?_⟩
   refine hK.out _ _ ⟨u,v11,v14,v16,g13,c13,g15,m8_,m10_,m12_,(by rw [ha.out];exact ajk 1 hb_ rfl rfl rfl),(aaz HB.out hb),(abz hb FC1.out),(abz hb FC2.out),fun _=>(Kd.aiq ho HB.out.size),fun h0_=>absurd ((hoff 6 (by kernel_rfl)).symm.trans h0_) (by decide),fun h0_=>⟨Kd.acz (Q_F13 h0_).1 hb,(Q_F13 h0_).2⟩,fun h0_=>absurd ((hoff 9 (by kernel_rfl)).symm.trans h0_) (by decide),fun h0_=>absurd ((hoff 10 (by kernel_rfl)).symm.trans h0_) (by decide),fun h0_=>absurd ((hoff 11 (by kernel_rfl)).symm.trans h0_) (by decide),Q_X8_,fun h0_=>absurd ((hoff 10 (by kernel_rfl)).symm.trans h0_) (by decide),fun h0_=>absurd ((hoff 12 (by kernel_rfl)).symm.trans h0_) (by decide)⟩
  refine ajz ?_ ?_
  ·rintro b a w' ⟨v7,v11,v14,v16,g13,c13,g15,m8_,m10_,m12_,ha,Q_HB,Q_FC1,Q_FC2,Q_F7,Q_F11,Q_F13,Q_F14,Q_F15,Q_F16,Q_X8_,Q_X10_,Q_X12_⟩ hb_ hon hoff
   refine⟨_,rfl,fun K hK=>?_⟩
   have e8:a.tmps[8]? = some (.pointer (some ⟨w.heap.size,2,none⟩)):=by rw [ha];exact(auz rfl).trans rfl
   replace ha:=Qz.k ha
   have HB:=Qz.k Q_HB
   have FC1:=Qz.k Q_FC1
   have FC2:=Qz.k Q_FC2
   have hc2:=FC2.out
   have hv8:=apq e8
   refine aAq (w1:=w') (v := .int .i64 (i:Int)) (by rfl) rfl ?_ ?_
   ·go_simp
    (try simp only [abq])
    try rfl
   refine hK.out _ _ ⟨v7,v11,v14,v16,g13,c13,g15,m8_,m10_,m12_,(by rw [ha.out];exact ajk 2 hb_ rfl rfl rfl),Q_HB,Q_FC1,Q_FC2,Q_F7,fun h0_=>absurd ((hoff 6 (by kernel_rfl)).symm.trans h0_) (by decide),Q_F13,fun h0_=>absurd ((hoff 9 (by kernel_rfl)).symm.trans h0_) (by decide),fun h0_=>absurd ((hoff 10 (by kernel_rfl)).symm.trans h0_) (by decide),fun h0_=>absurd ((hoff 11 (by kernel_rfl)).symm.trans h0_) (by decide),Q_X8_,fun h0_=>absurd ((hoff 10 (by kernel_rfl)).symm.trans h0_) (by decide),fun h0_=>absurd ((hoff 12 (by kernel_rfl)).symm.trans h0_) (by decide)⟩
  refine ajz ?_ ?_
  ·rintro b a w' ⟨v7,v11,v14,v16,g13,c13,g15,m8_,m10_,m12_,ha,Q_HB,Q_FC1,Q_FC2,Q_F7,Q_F11,Q_F13,Q_F14,Q_F15,Q_F16,Q_X8_,Q_X10_,Q_X12_⟩ hb_ hon hoff
   refine⟨_,rfl,fun K hK=>?_⟩
   have e9:a.tmps[9]? = some (.int .i64 (i:Int)):=by rw [ha];exact alq (e:=(4,9,.int .i64 (i:Int))) 2 rfl rfl (hon 4 (by kernel_rfl)) rfl
   replace ha:=Qz.k ha
   have HB:=Qz.k Q_HB
   have FC1:=Qz.k Q_FC1
   have FC2:=Qz.k Q_FC2
   have hv9:=apq e9
   have hw9:=HWI.out
   refine aAq (w1:=w') (v := .int .u64 (i:Int)) (by rfl) rfl ?_ ?_
   ·go_simp
    (try simp only [abq])
    try rfl
   refine hK.out _ _ ⟨v7,v11,v14,v16,g13,c13,g15,m8_,m10_,m12_,(by rw [ha.out];exact ajk 3 hb_ rfl rfl rfl),Q_HB,Q_FC1,Q_FC2,Q_F7,fun h0_=>absurd ((hoff 6 (by kernel_rfl)).symm.trans h0_) (by decide),Q_F13,fun h0_=>absurd ((hoff 9 (by kernel_rfl)).symm.trans h0_) (by decide),fun h0_=>absurd ((hoff 10 (by kernel_rfl)).symm.trans h0_) (by decide),fun h0_=>absurd ((hoff 11 (by kernel_rfl)).symm.trans h0_) (by decide),Q_X8_,fun h0_=>absurd ((hoff 10 (by kernel_rfl)).symm.trans h0_) (by decide),fun h0_=>absurd ((hoff 12 (by kernel_rfl)).symm.trans h0_) (by decide)⟩
  refine ajz ?_ ?_
  ·rintro b a w' ⟨v7,v11,v14,v16,g13,c13,g15,m8_,m10_,m12_,ha,Q_HB,Q_FC1,Q_FC2,Q_F7,Q_F11,Q_F13,Q_F14,Q_F15,Q_F16,Q_X8_,Q_X10_,Q_X12_⟩ hb_ hon hoff
   refine⟨_,rfl,fun K hK=>?_⟩
   have e10:a.tmps[10]? = some (.int .u64 (i:Int)):=by rw [ha];exact alq (e:=(5,10,.int .u64 (i:Int))) 3 rfl rfl (hon 5 (by kernel_rfl)) rfl
   replace ha:=Qz.k ha
   have HB:=Qz.k Q_HB
   have FC1:=Qz.k Q_FC1
   have FC2:=Qz.k Q_FC2
   have F7:=Qz.k (Q_F7 (hon 2 (by kernel_rfl)))
   refine aFq Tryz.func96 (by kernel_rfl) rfl #[.int .u64 (i:Int),.int .i64 4] (by rfl) rfl rfl (by simp only [List.map_toArray,List.map_cons,List.map_nil,Act.eval,Array.getD_eq_getD_getElem?,e10,Option.getD_some]) ?_
   with_reducible refine(HY.out w').mono ?_
   rintro e w3 ⟨u,rfl,ho,hb⟩
   refine⟨_,rfl,?_⟩
   refine hK.out _ _ ⟨v7,u,v14,v16,g13,c13,g15,m8_,m10_,m12_,(by rw [ha.out];exact ajk 4 hb_ rfl rfl rfl),(aaz HB.out hb),(abz hb FC1.out),(abz hb FC2.out),fun _=>(Kd.ahz F7.out hb),fun _=>(Kd.aiq ho HB.out.size),fun h0_=>⟨Kd.acz (Q_F13 h0_).1 hb,(Q_F13 h0_).2⟩,fun h0_=>absurd ((hoff 9 (by kernel_rfl)).symm.trans h0_) (by decide),fun h0_=>absurd ((hoff 10 (by kernel_rfl)).symm.trans h0_) (by decide),fun h0_=>absurd ((hoff 11 (by kernel_rfl)).symm.trans h0_) (by decide),Q_X8_,fun h0_=>absurd ((hoff 10 (by kernel_rfl)).symm.trans h0_) (by decide),fun h0_=>absurd ((hoff 12 (by kernel_rfl)).symm.trans h0_) (by decide)⟩
  refine ajz ?_ ?_
  ·rintro b a w' ⟨v7,v11,v14,v16,g13,c13,g15,m8_,m10_,m12_,ha,Q_HB,Q_FC1,Q_FC2,Q_F7,Q_F11,Q_F13,Q_F14,Q_F15,Q_F16,Q_X8_,Q_X10_,Q_X12_⟩ hb_ hon hoff
   refine⟨_,rfl,fun K hK=>?_⟩
   have e12:a.tmps[12]? = some (.string s):=by rw [ha];exact(auz rfl).trans rfl
   replace ha:=Qz.k ha
   have HB:=Qz.k Q_HB
   have FC1:=Qz.k Q_FC1
   have FC2:=Qz.k Q_FC2
   refine bPz (by rfl) (.tmp 12) 9 27 5 rfl (apq e12) Tryz.underlying9 Tryz.underlying27 Tryz.underlying5 HSZ.out ?_
   intro cc w3 hc hr hb
   refine hK.out _ _ ⟨v7,v11,v14,v16,w'.heap.size,cc,g15,(.slice (some ⟨w'.heap.size,0,none⟩) (sB s).length cc),m10_,m12_,(by rw [ha.out];exact ajk 5 hb_ rfl rfl rfl),(aaz HB.out hb),(abz hb FC1.out),(abz hb FC2.out),fun h0_=>(Kd.ahz (Q_F7 h0_) hb),fun h0_=>(Kd.ahz (Q_F11 h0_) hb),fun _=>⟨hr,hc⟩,fun h0_=>absurd ((hoff 9 (by kernel_rfl)).symm.trans h0_) (by decide),fun h0_=>absurd ((hoff 10 (by kernel_rfl)).symm.trans h0_) (by decide),fun h0_=>absurd ((hoff 11 (by kernel_rfl)).symm.trans h0_) (by decide),fun _=>rfl,fun h0_=>absurd ((hoff 10 (by kernel_rfl)).symm.trans h0_) (by decide),fun h0_=>absurd ((hoff 12 (by kernel_rfl)).symm.trans h0_) (by decide)⟩
  refine ajz ?_ ?_
  ·rintro b a w' ⟨v7,v11,v14,v16,g13,c13,g15,m8_,m10_,m12_,ha,Q_HB,Q_FC1,Q_FC2,Q_F7,Q_F11,Q_F13,Q_F14,Q_F15,Q_F16,Q_X8_,Q_X10_,Q_X12_⟩ hb_ hon hoff
   refine⟨_,rfl,fun K hK=>?_⟩
   have e13:a.tmps[13]? = some (m8_):=by rw [ha];exact alq (e:=(8,13,m8_)) 5 rfl rfl (hon 8 (by kernel_rfl)) rfl
   rw [Q_X8_ (hon 8 (by kernel_rfl))]at e13
   replace ha:=Qz.k ha
   have HB:=Qz.k Q_HB
   have FC1:=Qz.k Q_FC1
   have FC2:=Qz.k Q_FC2
   have F7:=Qz.k (Q_F7 (hon 2 (by kernel_rfl)))
   have F11:=Qz.k (Q_F11 (hon 6 (by kernel_rfl)))
   have F13:=Qz.k (Q_F13 (hon 8 (by kernel_rfl)))
   refine aFq Tryz.func25 (by kernel_rfl) rfl #[.slice (some ⟨g13,0,none⟩) (sB s).length c13] (by rfl) rfl rfl (by simp only [List.map_toArray,List.map_cons,List.map_nil,Act.eval,Array.getD_eq_getD_getElem?,e13,Option.getD_some]) ?_
   with_reducible refine(HBK.out w' (some ⟨g13,0,none⟩) c13 F13.out.1 F13.out.2).mono ?_
   rintro e w3 ⟨u,rfl,ho,hb⟩
   refine⟨_,rfl,?_⟩
   refine hK.out _ _ ⟨v7,v11,u,v16,g13,c13,g15,m8_,m10_,m12_,(by rw [ha.out];exact ajk 6 hb_ rfl rfl rfl),(aaz HB.out hb),(abz hb FC1.out),(abz hb FC2.out),fun _=>(Kd.ahz F7.out hb),fun _=>(Kd.ahz F11.out hb),fun _=>⟨Kd.acz F13.out.1 hb,F13.out.2⟩,fun _=>(Kd.aiq ho HB.out.size),fun h0_=>absurd ((hoff 10 (by kernel_rfl)).symm.trans h0_) (by decide),fun h0_=>absurd ((hoff 11 (by kernel_rfl)).symm.trans h0_) (by decide),Q_X8_,fun h0_=>absurd ((hoff 10 (by kernel_rfl)).symm.trans h0_) (by decide),fun h0_=>absurd ((hoff 12 (by kernel_rfl)).symm.trans h0_) (by decide)⟩
  refine ajz ?_ ?_
  ·rintro b a w' ⟨v7,v11,v14,v16,g13,c13,g15,m8_,m10_,m12_,ha,Q_HB,Q_FC1,Q_FC2,Q_F7,Q_F11,Q_F13,Q_F14,Q_F15,Q_F16,Q_X8_,Q_X10_,Q_X12_⟩ hb_ hon hoff
   refine⟨_,rfl,fun K hK=>?_⟩
   have e7:a.tmps[7]? = some (v7):=by rw [ha];exact alq (e:=(2,7,v7)) 1 rfl rfl (hon 2 (by kernel_rfl)) rfl
   have e11:a.tmps[11]? = some (v11):=by rw [ha];exact alq (e:=(6,11,v11)) 4 rfl rfl (hon 6 (by kernel_rfl)) rfl
   have e14:a.tmps[14]? = some (v14):=by rw [ha];exact alq (e:=(9,14,v14)) 6 rfl rfl (hon 9 (by kernel_rfl)) rfl
   replace ha:=Qz.k ha
   have HB:=Qz.k Q_HB
   have FC1:=Qz.k Q_FC1
   have FC2:=Qz.k Q_FC2
   have F7:=Qz.k (Q_F7 (hon 2 (by kernel_rfl)))
   have F11:=Qz.k (Q_F11 (hon 6 (by kernel_rfl)))
   have F13:=Qz.k (Q_F13 (hon 8 (by kernel_rfl)))
   have F14:=Qz.k (Q_F14 (hon 9 (by kernel_rfl)))
   obtain⟨A7,c7,q7⟩:=Kd.afz F7.out
   obtain⟨A11,c11,q11⟩:=Kd.afz F11.out
   obtain⟨A14,c14,q14⟩:=Kd.afz F14.out
   have r7:=F7.out
   have r11:=F11.out
   have r14:=F14.out
   rw [q7]at r7
   rw [q11]at r11
   rw [q14]at r14
   have hb:=aaq (Below.refl w'.heap.size w') (.cells #[v7,v11,v14] 27)
   have hv7:=apq e7
   have hv11:=apq e11
   have hv14:=apq e14
   refine aAq (w1:=w'.alloc (.cells #[v7,v11,v14] 27)) (v := .slice (some ⟨w'.heap.size,0,none⟩) 3 3) (by rfl) rfl ?_ ?_
   ·go_simp
   have h15:=bJz (W:=w'.alloc (.cells #[v7,v11,v14] 27)) (g:=w'.heap.size) ((aak (akz w' _) 0).trans (congrArg some q7)) (Kd.ack r7).2.1 (Kd.acz (Kd.ack r7).2.2 hb) ((aak (akz w' _) 1).trans (congrArg some q11)) (Kd.ack r11).2.1 (Kd.acz (Kd.ack r11).2.2 hb) ((aak (akz w' _) 2).trans (congrArg some q14)) (Kd.ack r14).2.1 (Kd.acz (Kd.ack r14).2.2 hb)
   refine hK.out _ _ ⟨v7,v11,v14,v16,g13,c13,w'.heap.size,m8_,(.slice (some ⟨w'.heap.size,0,none⟩) 3 3),m12_,(by rw [ha.out];exact ajk 7 hb_ rfl rfl rfl),(aaz HB.out hb),(abz hb FC1.out),(abz hb FC2.out),fun _=>(Kd.ahz F7.out hb),fun _=>(Kd.ahz F11.out hb),fun _=>⟨Kd.acz F13.out.1 hb,F13.out.2⟩,fun _=>(Kd.ahz F14.out hb),fun _=>h15,fun h0_=>absurd ((hoff 11 (by kernel_rfl)).symm.trans h0_) (by decide),Q_X8_,fun _=>rfl,fun h0_=>absurd ((hoff 12 (by kernel_rfl)).symm.trans h0_) (by decide)⟩
  refine ajz ?_ ?_
  ·rintro b a w' ⟨v7,v11,v14,v16,g13,c13,g15,m8_,m10_,m12_,ha,Q_HB,Q_FC1,Q_FC2,Q_F7,Q_F11,Q_F13,Q_F14,Q_F15,Q_F16,Q_X8_,Q_X10_,Q_X12_⟩ hb_ hon hoff
   refine⟨_,rfl,fun K hK=>?_⟩
   have e15:a.tmps[15]? = some (m10_):=by rw [ha];exact alq (e:=(10,15,m10_)) 7 rfl rfl (hon 10 (by kernel_rfl)) rfl
   rw [Q_X10_ (hon 10 (by kernel_rfl))]at e15
   replace ha:=Qz.k ha
   have HB:=Qz.k Q_HB
   have FC1:=Qz.k Q_FC1
   have FC2:=Qz.k Q_FC2
   have F7:=Qz.k (Q_F7 (hon 2 (by kernel_rfl)))
   have F11:=Qz.k (Q_F11 (hon 6 (by kernel_rfl)))
   have F13:=Qz.k (Q_F13 (hon 8 (by kernel_rfl)))
   have F14:=Qz.k (Q_F14 (hon 9 (by kernel_rfl)))
   have F15:=Qz.k (Q_F15 (hon 10 (by kernel_rfl)))
   refine aFq Tryz.func26 (by kernel_rfl) rfl #[.slice (some ⟨g15,0,none⟩) 3 3] (by rfl) rfl rfl (by simp only [List.map_toArray,List.map_cons,List.map_nil,Act.eval,Array.getD_eq_getD_getElem?,e15,Option.getD_some]) ?_
   with_reducible refine(HCC.out w' (some ⟨g15,0,none⟩) F15.out).mono ?_
   rintro e w3 ⟨u,rfl,ho,hb⟩
   refine⟨_,rfl,?_⟩
   refine hK.out _ _ ⟨v7,v11,v14,u,g13,c13,g15,m8_,m10_,m12_,(by rw [ha.out];exact ajk 8 hb_ rfl rfl rfl),(aaz HB.out hb),(abz hb FC1.out),(abz hb FC2.out),fun _=>(Kd.ahz F7.out hb),fun _=>(Kd.ahz F11.out hb),fun _=>⟨Kd.acz F13.out.1 hb,F13.out.2⟩,fun _=>(Kd.ahz F14.out hb),fun _=>(Kd.acz F15.out hb),fun _=>(Kd.aiq ho HB.out.size),Q_X8_,Q_X10_,fun h0_=>absurd ((hoff 12 (by kernel_rfl)).symm.trans h0_) (by decide)⟩
  refine ajz ?_ ?_
  ·rintro b a w' ⟨v7,v11,v14,v16,g13,c13,g15,m8_,m10_,m12_,ha,Q_HB,Q_FC1,Q_FC2,Q_F7,Q_F11,Q_F13,Q_F14,Q_F15,Q_F16,Q_X8_,Q_X10_,Q_X12_⟩ hb_ hon hoff
   refine⟨_,rfl,fun K hK=>?_⟩
   have e16:a.tmps[16]? = some (v16):=by rw [ha];exact alq (e:=(11,16,v16)) 8 rfl rfl (hon 11 (by kernel_rfl)) rfl
   replace ha:=Qz.k ha
   have HB:=Qz.k Q_HB
   have FC1:=Qz.k Q_FC1
   have FC2:=Qz.k Q_FC2
   have F7:=Qz.k (Q_F7 (hon 2 (by kernel_rfl)))
   have F11:=Qz.k (Q_F11 (hon 6 (by kernel_rfl)))
   have F13:=Qz.k (Q_F13 (hon 8 (by kernel_rfl)))
   have F14:=Qz.k (Q_F14 (hon 9 (by kernel_rfl)))
   have F15:=Qz.k (Q_F15 (hon 10 (by kernel_rfl)))
   have F16:=Qz.k (Q_F16 (hon 11 (by kernel_rfl)))
   have hv16:=apq e16
   refine aAq (w1:=w') (v:=v16) (by rfl) rfl ?_ ?_
   ·go_simp
    (try simp only [abq])
    try rfl
   refine hK.out _ _ ⟨v7,v11,v14,v16,g13,c13,g15,m8_,m10_,(v16),(by rw [ha.out];exact ajk 9 hb_ rfl rfl rfl),Q_HB,Q_FC1,Q_FC2,Q_F7,Q_F11,Q_F13,Q_F14,Q_F15,Q_F16,Q_X8_,Q_X10_,fun _=>rfl⟩
  exact bbq
 rintro b a w' hall ⟨v7,v11,v14,v16,g13,c13,g15,m8_,m10_,m12_,ha,Q_HB,Q_FC1,Q_FC2,Q_F7,Q_F11,Q_F13,Q_F14,Q_F15,Q_F16,Q_X8_,Q_X10_,Q_X12_⟩
 clear FC1 FC2 HB
 have hb1_:=hall 1 (by kernel_rfl)
 have hb2_:=hall 2 (by kernel_rfl)
 have hb4_:=hall 4 (by kernel_rfl)
 have hb5_:=hall 5 (by kernel_rfl)
 have hb6_:=hall 6 (by kernel_rfl)
 have hb8_:=hall 8 (by kernel_rfl)
 have hb9_:=hall 9 (by kernel_rfl)
 have hb10_:=hall 10 (by kernel_rfl)
 have hb11_:=hall 11 (by kernel_rfl)
 have hb12_:=hall 12 (by kernel_rfl)
 subst ha
 obtain rfl:=Q_X8_ hb8_
 obtain rfl:=Q_X10_ hb10_
 obtain rfl:=Q_X12_ hb12_
 simp only [awk,hb1_,hb2_,hb4_,hb5_,hb6_,hb8_,hb9_,hb10_,hb11_,hb12_,if_true,Act.put,List.setIfInBounds_toArray,List.set_cons_zero,List.set_cons_succ]
 have HB:=Qz.k Q_HB
 clear Q_HB
 have FC1:=Qz.k Q_FC1
 clear Q_FC1
 have FC2:=Qz.k Q_FC2
 clear Q_FC2
 have F7:=Qz.k (Q_F7 hb2_)
 clear Q_F7
 have F11:=Qz.k (Q_F11 hb6_)
 clear Q_F11
 have F13:=Qz.k (Q_F13 hb8_)
 clear Q_F13
 have F14:=Qz.k (Q_F14 hb9_)
 clear Q_F14
 have F15:=Qz.k (Q_F15 hb10_)
 clear Q_F15
 have F16:=Qz.k (Q_F16 hb11_)
 clear Q_F16
 clear hall hb1_ hb2_ hb4_ hb5_ hb6_ hb8_ hb9_ hb10_ hb11_ hb12_
 go_wp2
 go_ret
 exact⟨_,rfl,F16.out,HB.out⟩
end Go.Proofs.YthggdomocichdaaGreatDoor.P
