/- Put together: Merk1, Merk2. -/
import Derived.Test.YthggdomocichdaaGreatDoorZ22
set_option maxRecDepth 100000
set_option linter.unusedVariables false
set_option linter.unusedSimpArgs false
namespace Go.Proofs.YthggdomocichdaaGreatDoor.P
open Go.RowKit Go.Proofs.YthggdomocichdaaGreatDoor.Kit Go.Proofs.YthggdomocichdaaGreatDoorW.PrintWords Go.Proofs.YthggdomocichdaaGreatDoorW.PrintLast Go.Proofs.YthggdomocichdaaGreatDoorW.PrintMore
def mkIn (x:Int)(ls:List (List Int)):List Int:=
 let st:=aQz ls (aSz 1 shaF (List.replicate 64 0) 0 [x]) ls.length
 hSum true st.1 st.2.1 st.2.2
theorem mkIn_len (x:Int)(ls:List (List Int)):(mkIn x ls).length=32:=bBk ls _ (aOk _ _ _ _ _ rfl List.length_replicate).1 (aOk _ _ _ _ _ rfl List.length_replicate).2
set_option maxHeartbeats 4000000 in
theorem merkle_summed.calls (x:Int)(A0:Option Addr)(c0:Nat)(ls:List (List Int))(w:World)(hr0:Kd.C (Kd.slice 5 (Kd.int .u8)) w A0 ls.length ls)(hc0:ls.length≤c0)(hl:ls.length<1024)(hb:∀ b∈ls,b.length<1099511627776) :
  Calls Tryz.prog 89 #[.int .u8 x,.slice A0 ls.length c0] w fun e w'=>∃ v0_:Value,e=.returned v0_∧Kd.R (Kd.int .u8) 5 w' w.heap.size (fun _=>True) v0_ (mkIn x ls)∧Below w.heap.size w w':=by
 have HR:=Qz.k hr0
 have HC:=Qz.k hc0
 have HLS:=Qz.k hl
 have HBL:=Qz.k (fun j hj=>rows_len hb (j:=j) hj)
 obtain⟨st0,h0⟩:∃ st0,aSz 1 shaF (List.replicate 64 0) 0 [x]=st0:=⟨_,rfl⟩
 obtain⟨S0,P0,N0⟩:=st0
 have HST:=Qz.k h0
 have HN0:=Qz.k (show N0≤64 from by
  have:=bNk 1 shaF (List.replicate 64 0) 0 [x]
  rw [h0]at this
  have:N0≤0+1:=this
  omega)
 have HNJ:=Qz.k (fun j hj=>hRows_n hb (S0,P0,N0) j hj)
 obtain⟨R,hR⟩:∃ R,mkIn x ls=R:=⟨_,rfl⟩
 have HRE:=Qz.k (show R=hSum true (aQz ls (S0,P0,N0) ls.length).1 (aQz ls (S0,P0,N0) ls.length).2.1 (aQz ls (S0,P0,N0) ls.length).2.2 from by rw [←hR,mkIn,h0])
 rw [hR]
 clear hr0 hc0 hl hb h0 hR
 go_enter Tryz.func89,Tryz.ntmps89
 go_wp2_with (first
  |((with_reducible refine ahk (N:=9) rfl ?_);refine aik ?hg (N:=9) ?hd (cs:=(aDk false (List.replicate 8 0) (List.replicate 64 0) 0).toArray) (t:=180) ?hr ?_;(case hd=>rfl);(case hg=>rfl);(case hr=>first|(go_simp;done)|(go_simp;rfl));intro g7 hg w7 hbox hb;have HB7:=Qz.k hb;have HO7:=Qz.k (show IsH w7 g7 false (List.replicate 8 0) (List.replicate 64 0) 0 from⟨hbox,rfl,rfl⟩);have GE7:=Qz.k ((by rw [hg];exact Nat.le_refl _):w.heap.size≤g7);clear hbox hb hg)
  |((with_reducible refine ahk (N:=12) rfl ?_);refine Kd.bwz (Kd.int .u8) _ 5 ?hg (N:=12) ?hd (xs:=([x]:List Int)) (inner:=[.int .u8 x]) (ok:=fun _=>True) (okp:=fun _=>True) ?hr ?hp (fun _ hk=>hk) trivial (Below.refl _ _) (Nat.le_refl _) (by simp) ?_;(case hd=>rfl);(case hg=>rfl);(case hr=>first|(go_simp;done)|(go_simp;rfl));(case hp=>exact(Reps.one (show Kd.M (Kd.int .u8) _ _ _ x [.int .u8 x]from rfl) (Reps.none _ _)));intro v12 w12 ho hb hg_ hnew_;obtain⟨Al,cl,el_⟩:=Kd.afz ho;subst el_;have HL:=Qz.k ho;have HO8:=Qz.k (IsH.below HO7.out hb);have HB8:=Qz.k (aaz HB7.out hb);have HLT:=Qz.k HO7.out.lt;clear ho hb hg_ hnew_ HO7 HB7))
 have HVX:=Qz.k (show Kd.V (Kd.int .u8) 5 w12 0 (fun k=>k≠g7) (.slice Al ([x]:List Int).length cl) [x]from Kd.V_map (Kd.bRq (Kd.R_V (base':=0) (Kd.axz HL.out)) (ok':=fun k=>k≠g7) (fun k hk=>by have:=hk.2.1;have:=HLT.out;omega)) (fun _ h=>h))
 have HWR:=Qz.k (sha_Write.calls g7 false (List.replicate 8 0) (List.replicate 64 0) 0 Al cl [x] w w12 HO8.out HB8.out GE7.out HVX.out (show 0+1<1152921504606846976 by decide) S0 P0 N0 (by rw [if_neg (by decide)];exact HST.out))
 clear HVX
 refine HWR.out.mono ?_
 rintro e w6 ⟨rfl,hi6,hb6,hk6⟩
 have HO6:=Qz.k hi6
 have HB6:=Qz.k hb6
 clear hi6 hb6 hk6 HWR HO8 HB8 HL HLT
 go_wp2
 go_loopg [16] ls.length (fun kq v16 W'=>∃ (j:Nat) (S P:List Int) (N:Nat),v16=.int .i64 (j:Int)∧kq=ls.length-j∧j≤ls.length∧Qz (aQz ls (S0,P0,N0) j=(S,P,N))∧Qz (IsH W' g7 true S P N)∧Qz (Below w.heap.size w W'))
 case atStart=>exact⟨0,S0,P0,N0,rfl,rfl,Nat.zero_le _,⟨rfl⟩,HO6,HB6⟩
 case round=>
  clear HO6 HB6
  obtain⟨j,S,P,N,rfl,rfl,hj,HSJ,HO,HB⟩:=hrel
  have HNB:=Qz.k (show N≤64+j*1099511627776 from by
   have:=HNJ.out j hj
   rw [HSJ.out]at this
   have h2:N≤N0+j*1099511627776:=this
   have:=HN0.out
   omega)
  by_cases hlt2:j<ls.length
  ·have c5:decide ((j:Int)<(ls.length:Int))=true:=decide_eq_true (by omega)
   have c6:decide (j<ls.length)=true:=decide_eq_true hlt2
   have HW2:=Qz.k (show wrap64 ((j:Int)+1)=((j+1:Nat):Int)from by have:=HLS.out;rw [agq (by omega) (by omega)];omega)
   obtain⟨ad,Aj,cj,e5,hxj,hlj,hij⟩:=bVk HR.out (j:Int) (by omega) (by omega)
   subst e5
   rw [Int.toNat_natCast]at hxj
   replace hxj:=(HB.out.cell (World.block_lt_of_cell? w _ hxj)).trans hxj
   have HBJ:=Qz.k (HBL.out j hlt2)
   have HNX:=Qz.k (show aQz ls (S0,P0,N0) (j+1)=aSz (aDq ls (j:Int)).length S P N (aDq ls (j:Int))from by rw [aQz,HSJ.out])
   generalize aDq ls (j:Int)=b at *
   have HVB:=Qz.k (show Kd.V (Kd.int .u8) 5 wr 0 (fun k=>k≠g7) (.slice Aj b.length cj) b from Kd.bRq (Kd.V_below (Kd.V_bound (Kd.V_mk hlj (F_of_C hij))) HB.out) (fun k hk=>by have:=hk.2;have:=GE7.out;omega))
   obtain⟨st1,h1⟩:∃ st1,aSz b.length S P N b=st1:=⟨_,rfl⟩
   obtain⟨S1,P1,N1⟩:=st1
   rw [h1]at HNX
   have HH:=Qz.k h1
   clear hlj hij h1
   go_wp2_with (fail)
   refine(sha_Write.calls g7 true S P N Aj cj b w wr HO.out HB.out (by have:=GE7.out;omega) HVB.out (by have:=HNB.out;have:=HBJ.out;have:=HLS.out;omega) S1 P1 N1 (by rw [if_pos rfl];exact HH.out)).mono ?_
   rintro e w8 ⟨rfl,hi8,hb8,hk8⟩
   have HO8:=Qz.k hi8
   have HB8:=Qz.k hb8
   clear hi8 hb8 hk8 HO HB HVB
   go_wp2
   go_roundg (ls.length-(j+1))
   case measure=>exact(by have:=HLS.out;omega)
   case rel=>
    (try rw [HW2.out])
    exact⟨j+1,S1,P1,N1,rfl,rfl,hlt2,HNX,HO8,HB8⟩
  ·have c5:decide ((j:Int)<(ls.length:Int))=false:=decide_eq_false (by omega)
   have c6:decide (j<ls.length)=false:=decide_eq_false hlt2
   obtain rfl:j=ls.length:=by omega
   have HRF:=Qz.k (show R=hSum true S P N from by rw [HRE.out,HSJ.out])
   go_wp2_with (fail)
   refine(sha_Sum.calls g7 true S P N wr HO.out (by have:=HNB.out;have:=HLS.out;omega)).mono ?_
   rintro e w9 ⟨v9,rfl,ho9,hb9⟩
   have HR9:=Qz.k (Kd.aiq ho9 (afq HB.out))
   have HB9:=Qz.k (aaz HB.out hb9)
   clear ho9 hb9 HO HB
   go_wp2
   go_ret
   rw [HRF.out]
   exact⟨_,rfl,HR9.out,HB9.out⟩
def aVz (b:List Int):List Int:=mkIn 0 [b]
def a8z (a b:List Int):List Int:=mkIn 1 [a,b]
set_option maxHeartbeats 1000000 in
theorem merkle_Leaf.calls (A1:Option Addr)(c1:Nat)(l1:List Int)(w:World)(hr1:Kd.C (Kd.int .u8) w A1 l1.length l1)(hc1:l1.length≤c1)(hl:l1.length<1099511627776) :
  Calls Tryz.prog 48 #[.slice A1 l1.length c1] w fun e w'=>∃ v0_:Value,e=.returned v0_∧Kd.R (Kd.int .u8) 5 w' w.heap.size (fun _=>True) v0_ (aVz l1)∧Below w.heap.size w w':=by
 have HA:=Qz.k (show ∀ (w1:World) (A:Option Addr),Kd.C (Kd.slice 5 (Kd.int .u8)) w1 A 1 [l1]→Calls Tryz.prog 89 #[.int .u8 0,.slice A 1 1] w1 fun e w'=>∃ v0_:Value,e=.returned v0_∧Kd.R (Kd.int .u8) 5 w' w1.heap.size (fun _=>True) v0_ (aVz l1)∧Below w1.heap.size w1 w' from fun w1 A h=>merkle_summed.calls 0 A 1 [l1] w1 h (Nat.le_refl 1) (show 1<1024 by decide) (fun b hb=>by rw [List.mem_singleton.1 hb];exact hl))
 have HR1:=Qz.k hr1
 have HC1:=Qz.k hc1
 generalize aVz l1=R at *
 clear hr1 hc1 hl
 go_enter Tryz.func48,Tryz.ntmps48
 have HI9:=Qz.k (row_one (W:=w.alloc (.cells #[.slice A1 l1.length c1] 27)) (g:=w.heap.size) (A:=A1) (c:=c1) (l:=l1) ((aak (akz w _) 0).trans rfl) HC1.out (Kd.acz HR1.out (aaq (Below.refl _ _) _)))
 have HB9:=Qz.k (aaq (Below.refl w.heap.size w) (.cells #[.slice A1 l1.length c1] 27))
 go_wp2_with (fail)
 refine(HA.out _ _ HI9.out).mono ?_
 rintro e w10 ⟨v10,rfl,ho10,hb10⟩
 have HR10:=Qz.k (Kd.aiq ho10 (afq HB9.out))
 have HB10:=Qz.k (aaz HB9.out hb10)
 clear ho10 hb10
 go_wp2
 go_ret
 exact⟨_,rfl,HR10.out,HB10.out⟩
theorem bxk (a b:List Int):(a8z a b).length=32:=mkIn_len _ _
theorem b0k (a:List Int):(aVz a).length=32:=mkIn_len _ _
set_option maxHeartbeats 1000000 in
theorem merkle_Node.calls (A0:Option Addr)(c0:Nat)(a:List Int)(A1:Option Addr)(c1:Nat)(b:List Int)(w:World)(hr0:Kd.C (Kd.int .u8) w A0 a.length a)(hc0:a.length≤c0)(ha:a.length<1099511627776)(hr1:Kd.C (Kd.int .u8) w A1 b.length b)(hc1:b.length≤c1)(hb:b.length<1099511627776) :
  Calls Tryz.prog 92 #[.slice A0 a.length c0,.slice A1 b.length c1] w fun e w'=>∃ v0_:Value,e=.returned v0_∧Kd.R (Kd.int .u8) 5 w' w.heap.size (fun _=>True) v0_ (a8z a b)∧Below w.heap.size w w':=by
 have HA:=Qz.k (show ∀ (w1:World) (A:Option Addr),Kd.C (Kd.slice 5 (Kd.int .u8)) w1 A 2 [a,b]→Calls Tryz.prog 89 #[.int .u8 1,.slice A 2 2] w1 fun e w'=>∃ v0_:Value,e=.returned v0_∧Kd.R (Kd.int .u8) 5 w' w1.heap.size (fun _=>True) v0_ (a8z a b)∧Below w1.heap.size w1 w' from fun w1 A h=>merkle_summed.calls 1 A 2 [a,b] w1 h (Nat.le_refl 2) (show 2<1024 by decide) (fun x hx=>by
  simp only [List.mem_cons,List.not_mem_nil,or_false]at hx
  rcases hx with rfl|rfl
  ·exact ha
  ·exact hb))
 have HI9:=Qz.k (row_two (W:=w.alloc (.cells #[.slice A0 a.length c0,.slice A1 b.length c1] 27)) (g:=w.heap.size) ((aak (akz w _) 0).trans rfl) hc0 (Kd.acz hr0 (aaq (Below.refl _ _) _)) ((aak (akz w _) 1).trans rfl) hc1 (Kd.acz hr1 (aaq (Below.refl _ _) _)))
 have HB9:=Qz.k (aaq (Below.refl w.heap.size w) (.cells #[.slice A0 a.length c0,.slice A1 b.length c1] 27))
 generalize a8z a b=R at *
 clear hr0 hc0 ha hr1 hc1 hb
 go_enter Tryz.func92,Tryz.ntmps92
 go_wp2_with (fail)
 refine(HA.out _ _ HI9.out).mono ?_
 rintro e w10 ⟨v10,rfl,ho10,hb10⟩
 have HR10:=Qz.k (Kd.aiq ho10 (afq HB9.out))
 have HB10:=Qz.k (aaz HB9.out hb10)
 clear ho10 hb10
 go_wp2
 go_ret
 exact⟨_,rfl,HR10.out,HB10.out⟩
end Go.Proofs.YthggdomocichdaaGreatDoor.P
