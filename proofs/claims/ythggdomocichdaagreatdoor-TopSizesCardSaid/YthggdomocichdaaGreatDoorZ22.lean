/- Put together: Sha6, Sha7, Sha8, Hmac1, Hmac2, Hmac3, Hmac4, Venc1. -/
import Derived.Test.YthggdomocichdaaGreatDoorZ20
import Derived.Test.YthggdomocichdaaGreatDoorZ12
import Derived.Test.YthggdomocichdaaGreatDoorZ23
import Derived.Test.YthggdomocichdaaGreatDoorZ27
set_option maxRecDepth 100000
set_option linter.unusedVariables false
set_option linter.unusedSimpArgs false
namespace Go.Proofs.YthggdomocichdaaGreatDoor.P
open Go.RowKit Go.Proofs.YthggdomocichdaaGreatDoor.Kit Go.Proofs.YthggdomocichdaaGreatDoorW.PrintWords Go.Proofs.YthggdomocichdaaGreatDoorW.PrintLast Go.Proofs.YthggdomocichdaaGreatDoorW.PrintMore
theorem bGq {s:List Int}(hs:s.length=8)(p:List Int):(through s p).length=8:=by rw [through,bxz,hs]
def buq (n:Nat)(b:List Int):Nat:=min b.length (64-n%64)
def hPart (p:List Int)(n:Nat)(b:List Int):List Int:=p.take (n%64)++b.take (buq n b)++p.drop (n%64+buq n b)
def hS (s p:List Int)(n:Nat)(b:List Int):List Int:=if(n+buq n b)%64=0 then through s (hPart p n b)else s
def aSz : Nat→List Int→List Int→Nat→List Int→List Int×List Int×Nat
 | 0,s,p,n,_=>(s,p,n)
 |f+1,s,p,n,b=>if b=[]then(s,p,n)else aSz f (hS s p n b) (hPart p n b) (n+buq n b) (b.drop (buq n b))
theorem hPart_len {p:List Int}(hp:p.length=64)(n:Nat)(b:List Int):(hPart p n b).length=64:=by
 have h1:n%64<64:=Nat.mod_lt _ (by decide)
 have h2:buq n b≤b.length:=Nat.min_le_left _ _
 have h3:buq n b≤64-n%64:=Nat.min_le_right _ _
 simp only [hPart,List.length_append,List.length_take,List.length_drop,hp]
 omega
theorem hS_len {s:List Int}(hs:s.length=8)(p:List Int)(n:Nat)(b:List Int):(hS s p n b).length=8:=by
 unfold hS
 split
 ·exact bGq hs _
 ·exact hs
set_option maxHeartbeats 4000000 in
theorem sha_Write.calls (g:Nat)(bg:Bool)(s p:List Int)(n:Nat)(A0:Option Addr)(c0:Nat)(l0:List Int)(w0 w:World)(hI:IsH w g bg s p n)(hB:Below w0.heap.size w0 w)(hg:w0.heap.size≤g)
  (hV:Kd.V (Kd.int .u8) 5 w 0 (fun k=>k≠g) (.slice A0 l0.length c0) l0) (hn:n+l0.length<1152921504606846976) (S' P':List Int) (N':Nat) (hL:aSz l0.length (if bg then s else shaF) p n l0=(S',P',N')) :
  Calls Tryz.prog 152 #[.pointer (some ⟨g,0,none⟩),.slice A0 l0.length c0] w fun e w'=>e=.returned (.int .i64 (l0.length:Int))∧IsH w' g true S' P' N'∧Below w0.heap.size w0 w'∧alk w w' g none:=by
 have HI:=Qz.k hI
 have HB:=Qz.k hB
 have HG:=Qz.k hg
 have HV0:=Qz.k hV
 have HN:=Qz.k hn
 have HL:=Qz.k hL
 have hc0:=hI.c0
 have hf0:=hI.froz 0
 clear hI hB hg hV hn hL
 go_enter Tryz.func152,Tryz.ntmps152
 obtain⟨s1,hs1⟩:∃ s1,(if bg=true then s else shaF)=s1:=⟨_,rfl⟩
 have HLL:=Qz.k (show aSz l0.length s1 p n l0=(S',P',N')from by rw [←hs1];exact HL.out)
 have HS1:=Qz.k hs1
 clear hs1
 go_upto_if 13 with(fail)
 go_cut [] (fun wc=>Qz (IsH wc g true s1 p n)∧Qz (Below w0.heap.size w0 wc)∧Qz (alk w wc g none))
 case first=>
  cases bg with
  |true=>
   go_wp2
   go_meet
   case rel=>
    have HS2:s=s1:=by simpa using HS1.out
    exact⟨⟨by rw [←HS2];exact HI.out⟩,HB,⟨buz _ _⟩⟩
  |false=>
   have HS2:=Qz.k (show shaF=s1 from by simpa using HS1.out)
   go_wp2_with (fail)
   refine(sha_first.calls _).mono ?_
   rintro e w1 ⟨rfl,hb⟩
   rw [HS2.out]
   have HI1:=Qz.k (IsH.below HI.out hb)
   have HB1:=Qz.k (aaz HB.out hb)
   have HK1:=Qz.k (byk (g:=g) hb)
   have hc1:=HI1.out.c0
   have hf1:=HI1.out.froz 0
   have HS8:=Qz.k (show s1.length=8 from by rw [←HS2.out];rfl)
   clear hb hc0 hf0
   go_wp2_with (refine store_any 177 (.tmp 20) (.tmp 16) _ _ rfl rfl rfl rfl rfl ((HI1.out.set0 true).storeS HS8.out) ?_)
   go_meet
   case rel=>exact⟨⟨(HI1.out.set0 true).row HS8.out HI1.out.2.2⟩,⟨anz (adq HB1.out HG.out) HG.out⟩,⟨azz (azz HK1.out (a0z _ _ _ _)) (btk _ _ _)⟩⟩
 case rest=>
  clear HI HB HL hc0 hf0 HS1
  obtain⟨HI,HB,HK⟩:=hcut
  have HL:=Qz.k (show aSz l0.length s1 p n l0=(S',P',N')from HLL.out)
  have HV:=Qz.k (Kd.V_keep HV0.out HK.out (fun _ h=>h))
  clear HLL HV0
  go_wp2
  go_loopg [1] l0.length (fun kq v1 W'=>∃ (s' p':List Int) (n':Nat) (b:List Int),Qz (aSz kq s' p' n' b=(S',P',N')∧b.length≤kq∧n'+b.length<1152921504606846976)∧Qz (Kd.V (Kd.int .u8) 5 W' 0 (fun k=>k≠g) v1 b)∧Qz (IsH W' g true s' p' n')∧Qz (Below w0.heap.size w0 W')∧Qz (alk w W' g none))
  case atStart=>exact⟨s1,p,n,l0,⟨HL.out,Nat.le_refl _,HN.out⟩,HV,HI,HB,HK⟩
  case round=>
   clear HI HB HK HL HV
   obtain⟨s',p',n',b,HL,HV,HI,HB,HK⟩:=hrel
   obtain⟨A1,c1,e1⟩:=Kd.V_slice HV.out
   subst e1
   by_cases hb0:b.length=0
   ·have c1b:decide (0<(b.length:Int))=false:=decide_eq_false (by omega)
    have c2b:decide (0<b.length)=false:=decide_eq_false (by omega)
    have HFIN:=Qz.k (show(s',p',n')=(S',P',N')from by
     rw [←HL.out.1]
     have hb:b=[]:=List.eq_nil_of_length_eq_zero hb0
     cases gk with
     |zero=>rfl
     |succ f=>rw [aSz,if_pos hb])
    clear hb0
    go_wp2
    go_ret
    have h1:=HFIN.out
    injection h1 with h1 h2
    injection h2 with h2 h3
    subst h1 h2 h3
    exact⟨rfl,HI.out,HB.out,HK.out⟩
   ·have c1b:decide (0<(b.length:Int))=true:=decide_eq_true (by omega)
    have c2b:decide (0<b.length)=true:=decide_eq_true (by omega)
    cases gk with
    |zero=>exact absurd HL.out.2.1 (by omega)
    |succ f=>
     have HBN:=Qz.k (show b≠[]from fun e=>by rw [e]at hb0;exact hb0 rfl)
     have HLS:=Qz.k (show aSz f (hS s' p' n' b) (hPart p' n' b) (n'+buq n' b) (b.drop (buq n' b))=(S',P',N')from by
      have:=HL.out.1
      rw [aSz,if_neg HBN.out]at this
      exact this)
     obtain⟨r,hr⟩:∃ r,n'%64=r:=⟨_,rfl⟩
     obtain⟨k,hk⟩:∃ k,buq n' b=k:=⟨_,rfl⟩
     have HRK:=Qz.k (show r<64∧0<k∧k≤b.length∧k≤64-r∧k=min b.length (64-r)from by
      have h1:r<64:=by rw [←hr];exact Nat.mod_lt _ (by decide)
      have h2:k=min b.length (64-r):=by rw [←hk,buq,hr]
      omega)
     obtain⟨ad,e2,hx0⟩:=Kd.asz (Kd.V_reads' HV.out).2.2 ((0:Nat):Int) (by omega) (by omega)
     subst e2
     have hm1:Int.tmod (n':Int) 64=(r:Int):=by rw [Int.tmod_eq_emod_of_nonneg (by omega)];omega
     have hm2:(n':Int)%64=(r:Int):=by omega
     have hcn:=HI.out.cn
     have hr1:r<64:=HRK.out.1
     have hr2:(r:Int)<64:=by omega
     have hr3:decide ((r:Int)≤64)=true:=decide_eq_true (by omega)
     have hr4:(r:Int)≤64:=by omega
     have hr5:r≤64:=by omega
     have hr6:¬ 64=r:=by omega
     have HCP:=Qz.k (IsH.copy HI.out.drew (r:=r) (by omega) (b:=b) (ad:=ad) (c:=c1) (Kd.atq (Kd.V_reads' HV.out).2.2) (k:=k) HRK.out.2.2.2.2 3)
     obtain⟨cp,hcp⟩:∃ cp,p'.take r++b.take k++p'.drop (r+k)=cp:=⟨_,rfl⟩
     rw [hcp]at HCP
     have hcopy:=HCP.out
     have HPT:=Qz.k (show hPart p' n' b=cp from by rw [hPart,hr,hk,hcp])
     have HCPL:=Qz.k (show cp.length=64 from by rw [←HPT.out];exact hPart_len HI.out.2.2 n' b)
     have HRE:=Qz.k hr
     have HKE:=Qz.k hk
     clear hx0 hb0 hr hk hcp
     go_upto_region 7 with(fail)
     refine axq (n:=12) (S:=fun w'=>w'.cell? ⟨g,73,none⟩=some (.int .i64 (n':Int))) (ds:=[10]) (bl 12 0) (by kernel_rfl) rfl rfl (hcn) (fun hHeld=>?_)
     refine pu_ 0 26 ?_ ?_ (bl 12 1) rfl rfl (by kernel_rfl) ?_ ?_ ?_
     rotate_left 2
     ·intro w';go_simp;with_reducible rfl
     ·simp only [Act.put,putA,putZ,putS,abq,abk];rfl
     refine pu_ 1 27 ?_ ?_ (bl 12 3) rfl rfl (by kernel_rfl) ?_ ?_ ?_
     rotate_left 2
     ·intro w';go_simp;with_reducible rfl
     ·simp only [Act.put,putA,putZ,putS,abq,abk];rfl
     refine pu_ 2 28 ?_ ?_ (bl 12 7) rfl rfl (by kernel_rfl) ?_ ?_ ?_
     rotate_left 2
     ·intro w';go_simp;with_reducible rfl
     ·simp only [Act.put,putA,putZ,putS,abq,abk];rfl
     refine pu_ 3 29 ?_ ?_ (bl 12 15) rfl rfl (by kernel_rfl) ?_ ?_ ?_
     rotate_left 2
     ·intro w';go_simp;with_reducible rfl
     ·simp only [Act.put,putA,putZ,putS,abq,abk];rfl
     refine pu_ 4 30 ?_ ?_ (bl 12 31) rfl rfl (by kernel_rfl) ?_ ?_ ?_
     rotate_left 2
     ·intro w';go_simp;with_reducible rfl
     ·simp only [Act.put,putA,putZ,putS,abq,abk];rfl
     refine pu_ 5 31 ?_ ?_ (bl 12 63) rfl rfl (by kernel_rfl) ?_ ?_ ?_
     rotate_left 2
     ·intro w';go_simp;with_reducible rfl
     ·simp only [Act.put,putA,putZ,putS,abq,abk];rfl
     refine pu_ 9 35 ?_ ?_ (bl 12 575) rfl rfl (by kernel_rfl) ?_ ?_ ?_
     rotate_left 2
     ·intro w';go_simp;with_reducible rfl
     ·simp only [Act.put,putA,putZ,putS,abq,abk];rfl
     refine tk_ 6 32 ?_ ?_ (bl 12 639) rfl rfl (by kernel_rfl) hHeld ?_ ?_ ?_
     rotate_left 2
     ·intro w' s0;go_simp;with_reducible rfl
     ·simp only [Act.put,putA,putZ,putS,abq,abk];rfl
     refine pu_ 7 33 ?_ ?_ (bl 12 767) rfl rfl (by kernel_rfl) ?_ ?_ ?_
     rotate_left 2
     ·intro w';go_simp;with_reducible rfl
     ·simp only [Act.put,putA,putZ,putS,abq,abk];rfl
     refine pu_ 8 34 ?_ ?_ (bl 12 1023) rfl rfl (by kernel_rfl) ?_ ?_ ?_
     rotate_left 2
     ·intro w';go_simp;with_reducible rfl
     ·simp only [Act.put,putA,putZ,putS,abq,abk];rfl
     refine bdz (i:=10) (N:=some 36) (bl 12 2047) rfl rfl (by kernel_rfl) (by decide) (fun K hK=>?_)
     refine aAq (w1:=?_) (v:=?_) (by rfl) rfl ?_ ?_
     rotate_left 2
     ·go_simp
      constructor
      ·rfl
      ·rfl
     refine hK.out _ _ ?_
     clear hK K
     refine aHz (a':=?_) ?_ ?_
     rotate_left
     ·show Act.put _ (some 36) _=_
      simp only [Act.put,putA,putZ,putS,abq,abk]
      rfl
     refine pu_ 11 6 ?_ ?_ (bl 12 4095) rfl rfl (by kernel_rfl) ?_ ?_ ?_
     rotate_left 2
     ·intro w';go_simp;with_reducible rfl
     ·simp only [Act.put,putA,putZ,putS,abq,abk];rfl
     refine aPz (by kernel_rfl) ?_
     have HI2:=Qz.k (IsH.row HI.out.drew (bg':=true) (s':=s') (p':=cp) (n':=n') HI.out.2.1 HCPL.out)
     have HB2:=Qz.k (anz (g:=g) (c:=(aDk true s' cp n').toArray) (aez HB.out) HG.out)
     have HK2:=Qz.k (azz (show alk w wr.drew g none from HK.out) (btk wr.drew g (aDk true s' cp n').toArray))
     have HV2:=Qz.k (Kd.V_keep (Kd.V_drew HV.out) (btk wr.drew g (aDk true s' cp n').toArray) (fun _ h=>h))
     clear hcopy HCP HI HB HK HV hcn
     generalize wr.drew.setRow g (aDk true s' cp n').toArray=wa at *
     obtain⟨i012,hi012,_,hsz12,_⟩:=info_parts info5
     have hcut:=bEq (P:=Tryz.prog) 27 5 .i64 Tryz.underlying27 hi012 1 hsz12 (some ad) b.length c1 (k:Int) (by omega) (by have:=HRK.out;omega)
     have hF:=Kd.F_cut (m:=k) (c:=c1) (Kd.V_at HV2.out).2.2 HRK.out.2.2.1 (Kd.V_at HV2.out).2.1
     have hle:=(Kd.V_at HV2.out).2.1
     obtain⟨A2,hA2⟩:∃ A1,(if c1=k then(some ad)else(some ad:Option Addr).map (·.add (k*1)))=A1:=⟨_,rfl⟩
     obtain⟨c2,hc2⟩:∃ c2,c1-k=c2:=⟨_,rfl⟩
     obtain⟨b2,hb2⟩:∃ b2,b.drop k=b2:=⟨_,rfl⟩
     have hl2:b2.length=b.length-k:=by rw [←hb2,List.length_drop]
     rw [Int.toNat_natCast,hA2,hc2,←hl2]at hcut
     have hF2:Kd.F (Kd.int .u8) wa (fun k=>k≠g) A2 b2.length b2:=by rw [←hA2,←hb2];exact hF
     have HV3:=Qz.k (show Kd.V (Kd.int .u8) 5 wa 0 (fun k=>k≠g) (.slice A2 b2.length c2) b2 from Kd.V_mk (by rw [hl2,←hc2];exact Nat.sub_le_sub_right hle k) hF2)
     have HBL:=Qz.k (show b2.length≤f∧n'+k+b2.length<1152921504606846976 from by
      have h1:=HL.out
      have h2:=HRK.out
      omega)
     have HLT:=Qz.k (show aSz f (hS s' p' n' b) cp (n'+k) b2=(S',P',N')from by
      have:=HLS.out
      rw [HPT.out,HKE.out,hb2]at this
      exact this)
     have HSS:=Qz.k (show hS s' p' n' b=if(n'+k)%64=0 then through s' cp else s' from by rw [hS,HPT.out,HKE.out])
     obtain⟨N2,hN2⟩:∃ N2,n'+k=N2:=⟨_,rfl⟩
     rw [hN2]at HBL HLT HSS
     have hw9:wrap64 ((n':Int)+(k:Int))=(N2:Int):=by have:=HL.out;have:=HRK.out;rw [agq (by omega) (by omega)];omega
     have hcn:=HI2.out.cn
     have hfn:=HI2.out.froz 73
     clear hF hle hA2 hc2 hb2 hl2 hF2 hN2 hi012 hsz12 HV2 HL HLS hm1 hm2 hr1 hr2 hr3 hr4 hr5 hr6
     go_upto_region 10 with(fail)
     have HI3:=Qz.k (IsH.setn HI2.out N2)
     have HB3:=Qz.k (show Below w0.heap.size w0 (wa.setCell ⟨g,73,none⟩ (.int .i64 (N2:Int)))from adq HB2.out HG.out)
     have HK3:=Qz.k (azz HK2.out (a0z wa g 73 (.int .i64 (N2:Int))))
     have HV4:=Qz.k (Kd.V_keep HV3.out (a0z wa g 73 (.int .i64 (N2:Int))) (fun _ h=>h))
     clear hcn hfn HI2 HB2 HK2 HV3
     generalize wa.setCell ⟨g,73,none⟩ (.int .i64 (N2:Int))=wb at *
     have hcn:=HI3.out.cn
     obtain⟨R2,hR2⟩:∃ R2,N2%64=R2:=⟨_,rfl⟩
     have hm3:Int.tmod (N2:Int) 64=(R2:Int):=by rw [Int.tmod_eq_emod_of_nonneg (by omega)];omega
     have hm4:(N2:Int)%64=(R2:Int):=by omega
     rw [hR2]at HSS
     clear hR2
     by_cases h64:R2=0
     ·have d1:((R2:Int) == 0)=true:=by rw [h64];rfl
      have HSY:=Qz.k (show hS s' p' n' b=through s' cp from by rw [HSS.out,if_pos h64])
      rw [HSY.out]at HLT
      have HTL:=Qz.k (bGq HI3.out.2.1 cp)
      have HTC:=Qz.k (fun w1 (h:Kd.C (Kd.int .u8) w1 (some ⟨g,9,none⟩) cp.length cp)=>sha_state_through.calls s' HI3.out.2.1 (some ⟨g,9,none⟩) 64 cp w1 h (by have:=HCPL.out;omega) HCPL.out)
      rw [HCPL.out]at HTC
      have HPC:=Qz.k (show Kd.C (Kd.int .u8) wb.drew (some ⟨g,9,none⟩) 64 cp from by have:=HI3.out.drew.part;rw [HCPL.out]at this;exact this)
      have hld:=HI3.out.drew.loadS
      generalize through s' cp=th at *
      clear h64
      go_upto_region 11 with(fail)
      refine axq (n:=13) (S:=fun w'=>True) (ds:=[12]) (bl 13 0) (by kernel_rfl) rfl rfl (trivial) (fun hHeld=>?_)
      refine pu_ 0 54 ?_ ?_ (bl 13 1) rfl rfl (by kernel_rfl) ?_ ?_ ?_
      rotate_left 2
      ·intro w';go_simp;with_reducible rfl
      ·simp only [Act.put,putA,putZ,putS,abq,abk];rfl
      refine pu_ 1 55 ?_ ?_ (bl 13 3) rfl rfl (by kernel_rfl) ?_ ?_ ?_
      rotate_left 2
      ·intro w';go_simp;with_reducible rfl
      ·simp only [Act.put,putA,putZ,putS,abq,abk];rfl
      refine pu_ 2 56 ?_ ?_ (bl 13 7) rfl rfl (by kernel_rfl) ?_ ?_ ?_
      rotate_left 2
      ·intro w';go_simp;with_reducible rfl
      ·simp only [Act.put,putA,putZ,putS,abq,abk];rfl
      refine pu_ 3 57 ?_ ?_ (bl 13 15) rfl rfl (by kernel_rfl) ?_ ?_ ?_
      rotate_left 2
      ·intro w';go_simp;with_reducible rfl
      ·simp only [Act.put,putA,putZ,putS,abq,abk];rfl
      refine pu_ 5 59 ?_ ?_ (bl 13 47) rfl rfl (by kernel_rfl) ?_ ?_ ?_
      rotate_left 2
      ·intro w';go_simp;with_reducible rfl
      ·simp only [Act.put,putA,putZ,putS,abq,abk];rfl
      refine pu_ 6 60 ?_ ?_ (bl 13 111) rfl rfl (by kernel_rfl) ?_ ?_ ?_
      rotate_left 2
      ·intro w';go_simp;with_reducible rfl
      ·simp only [Act.put,putA,putZ,putS,abq,abk];rfl
      refine pu_ 7 61 ?_ ?_ (bl 13 239) rfl rfl (by kernel_rfl) ?_ ?_ ?_
      rotate_left 2
      ·intro w';go_simp;with_reducible rfl
      ·simp only [Act.put,putA,putZ,putS,abq,abk];rfl
      refine pu_ 8 62 ?_ ?_ (bl 13 495) rfl rfl (by kernel_rfl) ?_ ?_ ?_
      rotate_left 2
      ·intro w';go_simp;with_reducible rfl
      ·simp only [Act.put,putA,putZ,putS,abq,abk];rfl
      refine one_ (i:=4) (N:=some 58) (bl 13 511) rfl rfl (by kernel_rfl) (by decide) (fun K hK=>?_)
      refine aAq (w1:=?_) (v:=?_) (by rfl) rfl ?_ ?_
      rotate_left 2
      ·refine a3q 177 (.tmp 57) (.pointer (some ⟨g,1,none⟩)) ?_ ?_ hld <;> rfl
      refine hK.out _ _ (trivial) (fun hHeld=>?_)
      clear hK K
      refine aHz (a':=?_) ?_ ?_
      rotate_left
      ·show Act.put _ (some 58) _=_
       simp only [Act.put,putA,putZ,putS,abq,abk]
       rfl
      refine one_ (i:=9) (N:=some 63) (bl 13 1023) rfl rfl (by kernel_rfl) (by decide) (fun K hK=>?_)
      refine aFq Tryz.func199 (by kernel_rfl) rfl #[.agg (arrV .u32 s'),.slice (some ⟨g,9,none⟩) 64 64] (by rfl) rfl rfl (by simp only [List.map_toArray,List.map_cons,List.map_nil];first|done|rfl) ?_
      with_reducible refine(HTC.out _ HPC.out).mono ?_
      rintro e w8 ⟨rfl,hb⟩
      refine⟨_,rfl,?_⟩
      have HI5:=Qz.k (IsH.below HI3.out.drew hb)
      have HB5:=Qz.k (aaz (aez HB3.out) hb)
      have HK5:=Qz.k (azz (show alk w wb.drew g none from HK3.out) (byk hb))
      have HV5:=Qz.k (Kd.V_below (Kd.V_drew HV4.out) hb)
      clear hb
      refine hK.out _ _ (trivial) (fun hHeld=>?_)
      clear hK K
      refine aHz (a':=?_) ?_ ?_
      rotate_left
      ·show Act.put _ (some 63) _=_
       simp only [Act.put,putA,putZ,putS,abq,abk]
       rfl
      refine pu_ 10 64 ?_ ?_ (bl 13 2047) rfl rfl (by kernel_rfl) ?_ ?_ ?_
      rotate_left 2
      ·intro w';go_simp;with_reducible rfl
      ·simp only [Act.put,putA,putZ,putS,abq,abk];rfl
      refine pu_ 11 65 ?_ ?_ (bl 13 4095) rfl rfl (by kernel_rfl) ?_ ?_ ?_
      rotate_left 2
      ·intro w';go_simp;with_reducible rfl
      ·simp only [Act.put,putA,putZ,putS,abq,abk];rfl
      refine bdz (i:=12) (N:=none) (bl 13 8191) rfl rfl (by kernel_rfl) (by decide) (fun K hK=>?_)
      refine bbk (w1:=w8.setRow g (aDk true th cp N2).toArray) (by rfl) rfl ?_ ?_
      ·refine aSq 177 (.tmp 65) (.tmp 63) (.pointer (some ⟨g,1,none⟩)) (.agg (arrV .u32 th)) ?_ ?_ ?_ (HI5.out.storeS HTL.out) <;> rfl
      refine hK.out _ _ ?_
      clear hK K
      refine aPz (by kernel_rfl) ?_
      go_wp2
      go_roundg f
      case measure=>exact(by omega)
      case rel=>exact⟨th,cp,N2,b2,⟨HLT.out,HBL.out.1,HBL.out.2⟩,⟨Kd.V_keep HV5.out (btk _ g _) (fun _ h=>h)⟩,⟨HI5.out.row HTL.out HI5.out.2.2⟩,⟨anz HB5.out HG.out⟩,⟨azz HK5.out (btk _ g _)⟩⟩
     ·have d1:((R2:Int) == 0)=false:=by rw [beq_eq_false_iff_ne];omega
      have HSY:=Qz.k (show hS s' p' n' b=s' from by rw [HSS.out,if_neg h64])
      rw [HSY.out]at HLT
      clear h64
      go_wp2
      go_roundg f
      case measure=>exact(by omega)
      case rel=>exact⟨s',cp,N2,b2,⟨HLT.out,HBL.out.1,HBL.out.2⟩,HV4,HI3,HB3,HK3⟩
def padD (n:Nat):Nat:=(119-n%64)%64
def lenB (n:Nat):Nat→List Int
 | 0=>[]
 |j+1=>lenB n j ++ [(n:Int)*8/2 ^ (56-8*j)%256]
def hEnd (n:Nat):List Int:=(128 :: List.replicate (padD n) 0)++lenB n 8
theorem lenB_len (n:Nat):∀ j,(lenB n j).length=j
 | 0=>rfl
 |j+1=>by rw [lenB,List.length_append,lenB_len n j];rfl
theorem padD_lt (n:Nat):padD n<64:=Nat.mod_lt _ (by decide)
def hSum (bg:Bool)(s p:List Int)(n:Nat):List Int:=a4q (aSz (hEnd n).length (if bg then s else shaF) p n (hEnd n)).1
theorem aOk : ∀ (f:Nat) (s p:List Int) (n:Nat) (b:List Int),s.length=8→p.length=64→(aSz f s p n b).1.length=8∧(aSz f s p n b).2.1.length=64
 | 0,s,p,n,b,hs,hp=>⟨hs,hp⟩
 |f+1,s,p,n,b,hs,hp=>by
  rw [aSz]
  split
  ·exact⟨hs,hp⟩
  ·exact aOk f _ _ _ _ (hS_len hs _ _ _) (hPart_len hp _ _)
theorem hSum_len {bg:Bool}{s p:List Int}(hs:s.length=8)(hp:p.length=64)(n:Nat):(hSum bg s p n).length=32:=shaBytes_len (aOk _ _ p n _ (by split;exact hs;rfl) hp).1
theorem IsH.load {W:World}{g:Nat}{bg:Bool}{s p:List Int}{n:Nat}(h:IsH W g bg s p n):(Instr.loadAt 180 (.pointer (some ⟨g,0,none⟩))).run Tryz.prog W=.ok (.agg (aDk bg s p n).toArray) W:=
 load_seg W g 0 180 (aDk bg s p n) _ (fun j v hv=>by rw [Nat.zero_add,h.cell,hv]) Tryz.underlying180 rfl (by rw [aTk h.2.1 h.2.2];kernel_rfl)
theorem IsH.store {W:World}{g:Nat}{bg:Bool}{s p:List Int}{n:Nat}(h:IsH W g bg s p n){bg':Bool}{s' p':List Int}{n':Nat}(hs:s'.length=8)(hp:p'.length=64):(Instr.storeAt 180 (.pointer (some ⟨g,0,none⟩)) (.agg (aDk bg' s' p' n').toArray)).run Tryz.prog W=.ok () (W.setRow g (aDk bg' s' p' n').toArray):=by
 have:=store_seg (P:=Tryz.prog) W g 0 180 180 (aDk bg s p n).toArray (aDk bg' s' p' n') h.1 (by rw [aTk hs hp];kernel_rfl) (by rw [aTk hs hp,List.size_toArray,aTk h.2.1 h.2.2];decide) (fun v hv=>by
  simp only [aDk,List.mem_cons,List.mem_append,List.mem_map,List.not_mem_nil,or_false]at hv
  rcases hv with rfl|⟨x,_,rfl⟩|⟨x,_,rfl⟩|rfl <;> rfl)
 rw [this]
 refine congrArg (fun c=>Result.ok () (W.setRow g c)) (congrArg List.toArray ?_)
 rw [List.take_zero,List.nil_append,List.drop_of_length_le (by rw [List.toList_toArray,aTk h.2.1 h.2.2,aTk hs hp];decide),List.append_nil]
set_option maxHeartbeats 4000000 in
theorem sha_Sum.calls (g:Nat)(bg:Bool)(s p:List Int)(n:Nat)(w:World)(hI:IsH w g bg s p n)(hn:n<576460752303423488) :
  Calls Tryz.prog 153 #[.pointer (some ⟨g,0,none⟩)] w fun e w'=>∃ v0_:Value,e=.returned v0_∧Kd.R (Kd.int .u8) 5 w' w.heap.size (fun _=>True) v0_ (hSum bg s p n)∧Below w.heap.size w w':=by
 have HI:=Qz.k hI
 have HN:=Qz.k hn
 have hcn:=hI.cn
 have hld:=hI.load
 obtain⟨R,hR⟩:∃ R,hSum bg s p n=R:=⟨_,rfl⟩
 have HRE:=Qz.k hR
 rw [hR]
 clear hI hn hR
 go_enter Tryz.func153,Tryz.ntmps153
 go_wp2_with (first
  |(refine load_any 180 (.tmp 11) (.pointer (some ⟨g,0,none⟩)) (.agg (aDk bg s p n).toArray) rfl rfl rfl HI.out.load ?_)
  |((with_reducible refine ahk (N:=3) rfl ?_);refine aik ?hg (N:=3) ?hd (cs:=(aDk false (List.replicate 8 0) (List.replicate 64 0) 0).toArray) (t:=180) ?hr ?_;(case hd=>rfl);(case hg=>rfl);(case hr=>first|(go_simp;done)|(go_simp;rfl));intro g3 hg w3 hbox hb;have HB3:=Qz.k hb;have HO3:=Qz.k (show IsH w3 g3 false (List.replicate 8 0) (List.replicate 64 0) 0 from⟨hbox,rfl,rfl⟩);have GE:=Qz.k ((by rw [hg];exact Nat.le_refl _):w.heap.size≤g3);clear hbox hb hg hcn hld)
  |(refine store_any 180 (.tmp 3) (.tmp 12) (.pointer (some ⟨g3,0,none⟩)) (.agg (aDk bg s p n).toArray) rfl rfl rfl rfl rfl (HO3.out.store HI.out.2.1 HI.out.2.2) ?_;have HO4:=Qz.k (IsH.row HO3.out (bg':=bg) (s':=s) (p':=p) (n':=n) HI.out.2.1 HI.out.2.2);have HB4:=Qz.k (anz (g:=g3) (c:=(aDk bg s p n).toArray) HB3.out GE.out);have hcn:=HO4.out.cn;clear HO3 HB3)
  |((with_reducible refine ahk (N:=15) rfl ?_);refine Kd.bwz (Kd.int .u8) _ 5 ?hg (N:=15) ?hd (xs:=([128]:List Int)) (inner:=[.int .u8 128]) (ok:=fun _=>True) (okp:=fun _=>True) ?hr ?hp (fun _ hk=>hk) trivial (Below.refl _ _) (Nat.le_refl _) (by simp) ?_;(case hd=>rfl);(case hg=>rfl);(case hr=>first|(go_simp;done)|(go_simp;rfl));(case hp=>exact(Reps.one (show Kd.M (Kd.int .u8) _ _ _ 128 [.int .u8 128]from rfl) (Reps.none _ _)));intro v15 w15 ho hb hg_ hnew_;have HE5:=Qz.k (Kd.aiq ho (afq HB4.out));have HO5:=Qz.k (IsH.below HO4.out hb);have HB5:=Qz.k (aaz HB4.out hb);clear ho hb hg_ hnew_ HO4 HB4 hcn))
 go_loopg [5] (padD n) (fun kq v5 W'=>∃ (i:Nat) (out:List Int),Qz (i+kq=padD n∧out=128 :: List.replicate i 0)∧Qz (IsH W' g3 bg s p n)∧Qz (Below w.heap.size w W')∧Qz (Kd.R (Kd.int .u8) 5 W' w.heap.size (fun _=>True) v5 out))
 case atStart=>exact⟨0,[128],⟨by omega,rfl⟩,HO5,HB5,HE5⟩
 case round=>
  clear HO5 HB5 HE5
  obtain⟨i,out,HOE,HO,HB,HE⟩:=hrel
  obtain⟨A1,c1,e1⟩:=Kd.afz HE.out
  subst e1
  have HPD:=Qz.k (padD_lt n)
  have HOL:=Qz.k (show out.length=i+1 from by rw [HOE.out.2,List.length_cons,List.length_replicate])
  obtain⟨M,hM⟩:∃ M:Nat,n+out.length=M:=⟨_,rfl⟩
  have hw1:wrap64 ((n:Int)+(out.length:Int))=(M:Int):=by have:=HN.out;have:=HOL.out;have:=HOE.out;have:=HPD.out;rw [agq (by omega) (by omega)];omega
  obtain⟨r,hr⟩:∃ r,M%64=r:=⟨_,rfl⟩
  have hm1:Int.tmod (M:Int) 64=(r:Int):=by rw [Int.tmod_eq_emod_of_nonneg (by omega)];omega
  have hm2:(M:Int)%64=(r:Int):=by omega
  have HQ:=Qz.k (show r=56↔gk=0 from by
   have h1:=HOE.out.1
   have h2:=HOL.out
   unfold padD at h1
   omega)
  clear hM hr
  by_cases h56:r=56
  ·have d1:((r:Int) == 56)=true:=by rw [h56];rfl
   have d2:((r:Int) != 56)=false:=by rw [bne,d1];rfl
   have HFE:=Qz.k (show out=128 :: List.replicate (padD n) 0 from by
    have:=HQ.out.1 h56
    rw [HOE.out.2,show i=padD n by have:=HOE.out.1;omega])
   obtain⟨P0,hP0⟩:∃ P0,(128 :: List.replicate (padD n) (0:Int))=P0:=⟨_,rfl⟩
   have HPL:=Qz.k (show P0.length≤64 from by rw [←hP0,List.length_cons,List.length_replicate];have:=HPD.out;omega)
   have HEND:=Qz.k (show hEnd n=P0++lenB n 8 from by rw [hEnd,hP0])
   rw [hP0]at HFE
   have HE2:=Qz.k (show Kd.R (Kd.int .u8) 5 wr w.heap.size (fun _=>True) (.slice A1 out.length c1) P0 from by rw [←HFE.out];exact HE.out)
   clear h56 hP0 HFE HE HOE
   go_wp2
   clear hw1 hm1 hm2
   go_loopg [5,6] 8 (fun kq v5 v6 W'=>∃ (j:Nat) (z:Int) (out:List Int),v6=.int .i64 z∧kq=8-j∧j≤8∧Qz (z=56-8*(j:Int)∧out=P0++lenB n j)∧Qz (IsH W' g3 bg s p n)∧Qz (Below w.heap.size w W')∧Qz (Kd.R (Kd.int .u8) 5 W' w.heap.size (fun _=>True) v5 out))
   case atStart=>exact⟨0,56,P0,rfl,rfl,by omega,⟨rfl,(List.append_nil _).symm⟩,HO,HB,HE2⟩
   case round=>
    clear HO HB HE2
    obtain⟨j,z,out,rfl,rfl,hj,HOE,HO,HB,HE⟩:=hrel
    have HOL:=Qz.k (show out.length≤72 from by rw [HOE.out.2,List.length_append,lenB_len];have:=HPL.out;omega)
    by_cases hlt2:j<8
    ·obtain⟨q,hq⟩:∃ q:Nat,z=(q:Int):=⟨z.toNat,by have:=HOE.out.1;omega⟩
     subst hq
     have hq56:(q:Int)≤64:=by have:=HOE.out.1;omega
     have hq57:q≤64:=by omega
     have hq0:(0:Int)≤(q:Int):=by omega
     have c7:decide (0≤(q:Int))=true:=decide_eq_true (by omega)
     have hwn:IntKind.u64.wrap (n:Int)=(n:Int):=by have:=HN.out;exact aOq _ (by omega) (by omega)
     have hwn8:IntKind.u64.wrap ((n:Int)*8)=(n:Int)*8:=by have:=HN.out;exact aOq _ (by omega) (by omega)
     have HNX:=Qz.k (show out ++ [(n:Int)*8/2 ^ q%256]=P0++lenB n (j+1)from by
      rw [HOE.out.2,lenB,show 56-8*j=q by have:=HOE.out.1;omega,List.append_assoc])
     have HZ:=Qz.k (show wrap64 ((q:Int)-8)=56-8*((j+1:Nat):Int)from by have:=HOE.out.1;rw [agq (by omega) (by omega)];omega)
     have HQE:=Qz.k HOE.out.1
     obtain⟨X,hX⟩:∃ X:Int,(n:Int)*8/2 ^ q%256=X:=⟨_,rfl⟩
     rw [hX]at HNX
     clear HOE
     go_wp2_with (first
      |((with_reducible refine agk (b := .append) (xs:=#[.tmp 29,.tmp 36]) rfl ?_);at_builtin;refine Kd.aVq (Kd.int .u8) (w0:=w) w.heap.size rfl (.tmp 29) (.tmp 36) 27 5 (.int .u8 0) 1 rfl Tryz.underlying27 info5 rfl (by decide) (by omega) u5 out X [.int .u8 X] (fun _=>True) (fun _=>False) rfl rfl rfl (fun _ hk=>hk.elim) (fun _ _=>trivial) HE.out HB.out (afq HB.out) (by have:=HOL.out;omega) ?_;intro v1 w9 ho hb hg hat;have HO9:=Qz.k (show IsH w9 g3 bg s p n from⟨ark HO.out.1 hg (Kd.R_ne HE.out HO.out.1 (by decide)),HO.out.2⟩);have HB9:=Qz.k hb;have HE9:=Qz.k ho;clear ho hb hg hat))
     go_roundg (8-(j+1))
     case measure=>exact(by omega)
     case rel=>exact⟨j+1,_,out ++ [X],rfl,rfl,hlt2,⟨by first|exact HZ.out|(have:=HQE.out;omega),HNX.out⟩,HO9,HB9,HE9⟩
    ·have c7:decide (0≤z)=false:=decide_eq_false (by have:=HOE.out.1;omega)
     have c8:¬ 0≤z:=by have:=HOE.out.1;omega
     have HFE:=Qz.k (show out=hEnd n from by rw [HEND.out,HOE.out.2,show j=8 by omega])
     obtain⟨A1,c1,e1⟩:=Kd.afz HE.out
     subst e1
     rw [HFE.out]at HE HOL
     obtain⟨S',P',N',hL⟩:∃ S' P' N',aSz (hEnd n).length (if bg then s else shaF) p n (hEnd n)=(S',P',N'):=⟨_,_,_,rfl⟩
     have HRS:=Qz.k (show R=a4q S' from by rw [←HRE.out,hSum,hL])
     have HLL:=Qz.k hL
     have HVE:=Qz.k (show Kd.V (Kd.int .u8) 5 wr 0 (fun k=>k≠g3) (.slice A1 (hEnd n).length c1) (hEnd n)from Kd.V_map (Kd.bRq (Kd.R_V (base':=0) (Kd.aLk HE.out HO.out.1 (fun q hq=>by
      rcases List.mem_cons.1 hq with rfl|hq
      ·decide
      ·exact absurd hq (by rw [show(Kd.int .u8).E=[]from rfl];exact List.not_mem_nil)))) (ok':=fun k=>k≠g3) (fun k hk=>hk.2)) (fun _ h=>h))
     obtain⟨EN,hEN⟩:∃ EN,hEnd n=EN:=⟨_,rfl⟩
     rw [hEN]at HE HOL HVE HLL HFE
     clear hEN hL
     rw [HFE.out]
     go_wp2_with (fail)
     refine(sha_Write.calls g3 bg s p n A1 c1 EN w _ HO.out HB.out GE.out HVE.out (by have:=HN.out;have:=HOL.out;omega) S' P' N' HLL.out).mono ?_
     rintro e w6 ⟨rfl,hi6,hb6,hk6⟩
     have HO6:=Qz.k hi6
     have HB6:=Qz.k hb6
     clear hi6 hb6 hk6 HO HB HE HVE
     go_wp2_with (first
      |(refine load_any 177 (.tmp 40) (.pointer (some ⟨g3,1,none⟩)) (.agg (arrV .u32 S')) rfl rfl rfl HO6.out.loadS ?_))
     refine(sha_state_bytes.calls S' HO6.out.2.1 _).mono ?_
     rintro e w7 ⟨v7,rfl,ho7,hb7⟩
     have HR7:=Qz.k (Kd.aiq ho7 (afq HB6.out))
     have HB7:=Qz.k (aaz HB6.out hb7)
     clear ho7 hb7 HO6 HB6
     go_wp2
     go_ret
     rw [HRS.out]
     exact⟨_,rfl,HR7.out,HB7.out⟩
  ·have d1:((r:Int) == 56)=false:=by rw [beq_eq_false_iff_ne];omega
   have d2:((r:Int) != 56)=true:=by rw [bne,d1];rfl
   cases gk with
   |zero=>exact absurd (HQ.out.2 rfl) h56
   |succ f=>
    have HNX:=Qz.k (show out ++ [0]=128 :: List.replicate (i+1) 0 from by rw [HOE.out.2,List.cons_append,←List.replicate_succ'])
    have HOK:=Qz.k (show out.length≤64 from by have:=HOL.out;have:=HOE.out.1;have:=HPD.out;omega)
    go_wp2_with (first
     |((with_reducible refine agk (b := .append) (xs:=#[.tmp 22,.tmp 23]) rfl ?_);at_builtin;refine Kd.aVq (Kd.int .u8) (w0:=w) w.heap.size rfl (.tmp 22) (.tmp 23) 27 5 (.int .u8 0) 1 rfl Tryz.underlying27 info5 rfl (by decide) (by omega) (.slice A1 out.length c1) out 0 [.int .u8 0] (fun _=>True) (fun _=>False) rfl rfl rfl (fun _ hk=>hk.elim) (fun _ _=>trivial) HE.out HB.out (afq HB.out) (by have:=HOK.out;omega) ?_;intro v1 w9 ho hb hg hat;have HO9:=Qz.k (show IsH w9 g3 bg s p n from⟨ark HO.out.1 hg (Kd.R_ne HE.out HO.out.1 (by decide)),HO.out.2⟩);have HB9:=Qz.k hb;have HE9:=Qz.k ho;clear ho hb hg hat))
    go_roundg f
    case measure=>exact(by omega)
    case rel=>exact⟨i+1,out ++ [0],⟨by have:=HOE.out.1;omega,HNX.out⟩,HO9,HB9,HE9⟩
theorem F_of_C {k:IntKind}{W:World}{A:Option Addr}{xs:List Int}(h:(Kd.int k).C W A xs.length xs):Kd.F (Kd.int k) W (fun _=>True) A xs.length xs:=by
 intro W' hs
 refine Kd.aSk (enc:=Value.int k) (d:=(0:Int)) (h1:=fun _=>rfl) ⟨rfl,h.2.1,fun hn=>?_⟩
 obtain⟨ad,e,hc⟩:=Kd.asz h ((0:Nat):Int) (by omega) (by omega)
 refine⟨ad,e,fun j hj=>?_⟩
 obtain⟨ad',e',hc'⟩:=Kd.asz h (j:Int) (by omega) (by omega)
 rw [e]at e'
 injection e' with e'
 subst e'
 rw [Int.toNat_natCast]at hc'
 have hlt:=World.block_lt_of_cell? W _ hc'
 rw [World.cell?_of_block (w:=W) (hs _ trivial hlt),hc',aUk]
def shaIn (b:List Int):List Int×List Int×Nat:=aSz b.length shaF (List.replicate 64 0) 0 b
def bCk (b:List Int):List Int:=hSum true (shaIn b).1 (shaIn b).2.1 (shaIn b).2.2
theorem bNk : ∀ (f:Nat) (s p:List Int) (n:Nat) (b:List Int),(aSz f s p n b).2.2≤n+b.length
 | 0,s,p,n,b=>Nat.le_add_right _ _
 |f+1,s,p,n,b=>by
  rw [aSz]
  split
  ·exact Nat.le_add_right _ _
  ·have:=bNk f (hS s p n b) (hPart p n b) (n+buq n b) (b.drop (buq n b))
   rw [List.length_drop]at this
   have h2:buq n b≤b.length:=Nat.min_le_left _ _
   omega
theorem bqz (b:List Int):(bCk b).length=32:=hSum_len (aOk _ _ _ _ _ rfl List.length_replicate).1 (aOk _ _ _ _ _ rfl List.length_replicate).2 _
set_option maxHeartbeats 4000000 in
theorem sha_Sum_all.calls (A0:Option Addr)(c0:Nat)(l0:List Int)(w:World)(hr0:Kd.C (Kd.int .u8) w A0 l0.length l0)(hc0:l0.length≤c0)(hn:l0.length<576460752303423488) :
  Calls Tryz.prog 90 #[.slice A0 l0.length c0] w fun e w'=>∃ v0_:Value,e=.returned v0_∧Kd.R (Kd.int .u8) 5 w' w.heap.size (fun _=>True) v0_ (bCk l0)∧Below w.heap.size w w':=by
 have HV:=Qz.k (show Kd.V (Kd.int .u8) 5 w 0 (fun k=>k<w.heap.size) (.slice A0 l0.length c0) l0 from Kd.bRq (Kd.V_bound (Kd.V_mk hc0 (F_of_C hr0))) (fun k hk=>hk.2))
 have HN:=Qz.k hn
 obtain⟨S',P',N',hL⟩:∃ S' P' N',aSz l0.length shaF (List.replicate 64 0) 0 l0=(S',P',N'):=⟨_,_,_,rfl⟩
 have HNN:=Qz.k (show N'<576460752303423488 from by
  have:=bNk l0.length shaF (List.replicate 64 0) 0 l0
  rw [hL]at this
  have:N'≤0+l0.length:=this
  omega)
 have HRS:=Qz.k (show bCk l0=hSum true S' P' N' from by unfold bCk shaIn;rw [hL])
 have HL:=Qz.k hL
 clear hr0 hc0 hn hL
 go_enter Tryz.func90,Tryz.ntmps90
 go_wp2_with (first
  |((with_reducible refine ahk (N:=5) rfl ?_);refine aik ?hg (N:=5) ?hd (cs:=(aDk false (List.replicate 8 0) (List.replicate 64 0) 0).toArray) (t:=180) ?hr ?_;(case hd=>rfl);(case hg=>rfl);(case hr=>first|(go_simp;done)|(go_simp;rfl));intro g3 hg w3 hbox hb;have HB3:=Qz.k hb;have HO3:=Qz.k (show IsH w3 g3 false (List.replicate 8 0) (List.replicate 64 0) 0 from⟨hbox,rfl,rfl⟩);have GE:=Qz.k ((by rw [hg];exact Nat.le_refl _):w.heap.size≤g3);have HV3:=Qz.k (show Kd.V (Kd.int .u8) 5 w3 0 (fun k=>k≠g3) (.slice A0 l0.length c0) l0 from Kd.bRq (Kd.V_below HV.out hb) (fun k hk=>by rw [hg];omega));clear hbox hb hg))
 refine(sha_Write.calls g3 false (List.replicate 8 0) (List.replicate 64 0) 0 A0 c0 l0 w _ HO3.out HB3.out GE.out HV3.out (by have:=HN.out;omega) S' P' N' (by rw [if_neg (by decide)];exact HL.out)).mono ?_
 rintro e w6 ⟨rfl,hi6,hb6,hk6⟩
 have HO6:=Qz.k hi6
 have HB6:=Qz.k hb6
 clear hi6 hb6 hk6 HO3 HB3 HV3
 go_wp2_with (fail)
 refine(sha_Sum.calls g3 true S' P' N' _ HO6.out HNN.out).mono ?_
 rintro e w7 ⟨v7,rfl,ho7,hb7⟩
 have HR7:=Qz.k (Kd.aiq ho7 (afq HB6.out))
 have HB7:=Qz.k (aaz HB6.out hb7)
 clear ho7 hb7 HO6 HB6
 go_wp2
 go_ret
 rw [HRS.out]
 exact⟨_,rfl,HR7.out,HB7.out⟩
def bjk (key:List Int)(x:Int):Nat→List Int
 | 0=>key
 |j+1=>(bjk key x j).set j (Go.bits .xor .u8 (rd (bjk key x j) (j:Int)) x)
theorem bFq (key:List Int)(x:Int):∀ j,(bjk key x j).length=key.length
 | 0=>rfl
 |j+1=>by rw [bjk,List.length_set,bFq key x j]
def aQz (ls:List (List Int))(st:List Int×List Int×Nat):Nat→List Int×List Int×Nat
 | 0=>st
 |j+1=>aSz (aDq ls (j:Int)).length (aQz ls st j).1 (aQz ls st j).2.1 (aQz ls st j).2.2 (aDq ls (j:Int))
def bBq (key:List Int)(x:Int)(ls:List (List Int)):List Int:=
 let st:=aQz ls (aSz 64 shaF (List.replicate 64 0) 0 (bjk key x 64)) ls.length
 hSum true st.1 st.2.1 st.2.2
theorem rows_len {ls:List (List Int)}(hb:∀ b∈ls,b.length<1099511627776){j:Nat}(hj:j<ls.length):(aDq ls (j:Int)).length<1099511627776:=by
 refine hb _ ?_
 unfold aDq
 rw [Int.toNat_natCast,List.getD_eq_getElem?_getD,List.getElem?_eq_getElem hj]
 exact List.getElem_mem hj
theorem hRows_n {ls:List (List Int)}(hb:∀ b∈ls,b.length<1099511627776)(st:List Int×List Int×Nat):∀ j,j≤ls.length→(aQz ls st j).2.2≤st.2.2+j*1099511627776
 | 0,_=>by simp [aQz]
 |j+1,h=>by
  rw [aQz]
  have h1:=bNk (aDq ls (j:Int)).length (aQz ls st j).1 (aQz ls st j).2.1 (aQz ls st j).2.2 (aDq ls (j:Int))
  have h2:=hRows_n hb st j (by omega)
  have h3:=rows_len hb (show j<ls.length by omega)
  omega
theorem Arr.C {W:World}{g t:Nat}{k:IntKind}{l:List Int}(h:Arr W g t k l)(hl:l.length<1024):Kd.C (Kd.int k) W (some ⟨g,0,none⟩) l.length l:=
 Kd.aSk (enc:=Value.int k) (d:=(0:Int)) (h1:=fun _=>rfl) ⟨rfl,by omega,fun _=>⟨_,rfl,fun j hj=>by
  rw [addr_add,Nat.zero_add,h.cell hj,aUk]⟩⟩
theorem Arr.F {W:World}{g t:Nat}{k:IntKind}{l:List Int}(h:Arr W g t k l)(hl:l.length<1024):Kd.F (Kd.int k) W (fun b=>b=g) (some ⟨g,0,none⟩) l.length l:=fun W' hs=>Arr.C (show Arr W' g t k l from(hs g rfl h.lt).trans h) hl
set_option maxHeartbeats 4000000 in
theorem hmac_summed.calls (key:List Int)(hk:key.length=64)(x:Int)(A0:Option Addr)(c0:Nat)(ls:List (List Int))(w:World)(hr0:Kd.C (Kd.slice 5 (Kd.int .u8)) w A0 ls.length ls)(hc0:ls.length≤c0)(hl:ls.length<1024)(hb:∀ b∈ls,b.length<1099511627776) :
  Calls Tryz.prog 159 #[.agg (arrV .u8 key),.int .u8 x,.slice A0 ls.length c0] w fun e w'=>∃ v0_:Value,e=.returned v0_∧Kd.R (Kd.int .u8) 5 w' w.heap.size (fun _=>True) v0_ (bBq key x ls)∧Below w.heap.size w w':=by
 have HR:=Qz.k hr0
 have HC:=Qz.k hc0
 have HK:=Qz.k hk
 have HLS:=Qz.k hl
 have HBL:=Qz.k (fun j hj=>rows_len hb (j:=j) hj)
 obtain⟨st0,h0⟩:∃ st0,aSz 64 shaF (List.replicate 64 0) 0 (bjk key x 64)=st0:=⟨_,rfl⟩
 obtain⟨S0,P0,N0⟩:=st0
 have HST:=Qz.k h0
 have HN0:=Qz.k (show N0≤64 from by
  have:=bNk 64 shaF (List.replicate 64 0) 0 (bjk key x 64)
  rw [h0,bFq,hk]at this
  have:N0≤0+64:=this
  omega)
 have HNJ:=Qz.k (fun j hj=>hRows_n hb (S0,P0,N0) j hj)
 obtain⟨R,hR⟩:∃ R,bBq key x ls=R:=⟨_,rfl⟩
 have HRE:=Qz.k (show R=hSum true (aQz ls (S0,P0,N0) ls.length).1 (aQz ls (S0,P0,N0) ls.length).2.1 (aQz ls (S0,P0,N0) ls.length).2.2 from by rw [←hR,bBq,h0])
 rw [hR]
 clear hr0 hc0 hk hl hb h0 hR
 go_enter Tryz.func159,Tryz.ntmps159
 go_wp2_with (first
  |((with_reducible refine ahk (N:=3) rfl ?_);refine aik ?hg (N:=3) ?hd (cs:=arrV .u8 key) (t:=178) ?hr ?_;(case hd=>rfl);(case hg=>rfl);(case hr=>first|(go_simp;done)|(go_simp;rfl));intro g3 hg w3 hbox hb;have HB3:=Qz.k hb;have HA3:=Qz.k (show Arr w3 g3 178 .u8 key from hbox);have GE3:=Qz.k ((by rw [hg];exact Nat.le_refl _):w.heap.size≤g3);clear hbox hb hg)
  |((with_reducible refine ahk (N:=12) rfl ?_);refine aik ?hg (N:=12) ?hd (cs:=(aDk false (List.replicate 8 0) (List.replicate 64 0) 0).toArray) (t:=180) ?hr ?_;(case hd=>rfl);(case hg=>rfl);(case hr=>first|(go_simp;done)|(go_simp;rfl));intro g7 hg w7 hbox hb;have HB7:=Qz.k (aaz HB3.out hb);have HO7:=Qz.k (show IsH w7 g7 false (List.replicate 8 0) (List.replicate 64 0) 0 from⟨hbox,rfl,rfl⟩);have HA7:=Qz.k (Arr.below HA3.out hb);have GE7:=Qz.k ((by rw [hg];exact HA3.out.lt):g3<g7);clear hbox hb hg HA3 HB3))
 go_loopg [13] 64 (fun kq v13 W'=>∃ j:Nat,v13=.int .i64 (j:Int)∧kq=64-j∧j≤64∧Qz (Arr W' g3 178 .u8 (bjk key x j))∧Qz (IsH W' g7 false (List.replicate 8 0) (List.replicate 64 0) 0)∧Qz (Below w.heap.size w W'))
 case atStart=>exact⟨0,rfl,rfl,by omega,HA7,HO7,HB7⟩
 case round=>
  clear HA7 HO7 HB7
  obtain⟨j,rfl,rfl,hj,HA,HO,HB⟩:=hrel
  have HXL:=Qz.k (show(bjk key x j).length=64 from by rw [bFq];exact HK.out)
  by_cases hlt:j<64
  ·have c3:decide ((j:Int)<64)=true:=decide_eq_true (by omega)
   have c4:decide (j<64)=true:=decide_eq_true hlt
   have n0:(j:Int)<64:=by omega
   have HW:=Qz.k (show wrap64 ((j:Int)+1)=((j+1:Nat):Int)from by rw [agq (by omega) (by omega)];omega)
   have hcx:wr.cell? ⟨g3,j,none⟩=some (.int .u8 (rd (bjk key x j) (j:Int))):=HA.out.cell (by have:=HXL.out;omega)
   have hfx:=HA.out.froz j
   have HNX:=Qz.k (show bjk key x (j+1)=(bjk key x j).set j (Go.bits .xor .u8 (rd (bjk key x j) (j:Int)) x)from rfl)
   generalize rd (bjk key x j) (j:Int)=y at *
   go_wp2
   go_roundg (64-(j+1))
   case measure=>exact(by omega)
   case rel=>
    (try rw [HW.out])
    exact⟨j+1,rfl,rfl,hlt,⟨by rw [HNX.out];exact HA.out.put j _⟩,⟨⟨(Below.heap_setCell _ _ _ g7 (by show g7≠g3;have:=GE7.out;omega)).trans HO.out.1,HO.out.2⟩⟩,⟨adq HB.out GE3.out⟩⟩
  ·have c3:decide ((j:Int)<64)=false:=decide_eq_false (by omega)
   have c4:decide (j<64)=false:=decide_eq_false hlt
   obtain rfl:j=64:=by omega
   obtain⟨KX,hKX⟩:∃ KX,bjk key x 64=KX:=⟨_,rfl⟩
   rw [hKX]at HA HXL HST
   clear hKX
   have HVK:=Qz.k (show Kd.V (Kd.int .u8) 5 wr 0 (fun k=>k≠g7) (.slice (some ⟨g3,0,none⟩) KX.length 64) KX from Kd.V_mk (by have:=HXL.out;omega) (Kd.F_mono (HA.out.F (by have:=HXL.out;omega)) (fun k hk=>by have:=GE7.out;omega)))
   have HWR:=Qz.k (sha_Write.calls g7 false (List.replicate 8 0) (List.replicate 64 0) 0 (some ⟨g3,0,none⟩) 64 KX w wr HO.out HB.out (by have:=GE3.out;have:=GE7.out;omega) HVK.out (by have:=HXL.out;omega) S0 P0 N0 (by rw [if_neg (by decide),HXL.out];exact HST.out))
   rw [HXL.out]at HWR
   clear HVK
   go_wp2_with (fail)
   refine HWR.out.mono ?_
   rintro e w6 ⟨rfl,hi6,hb6,hk6⟩
   have HO6:=Qz.k hi6
   have HB6:=Qz.k hb6
   clear hi6 hb6 hk6 HWR HO HB HA
   go_wp2
   go_loopg [28] ls.length (fun kq v28 W'=>∃ (j:Nat) (S P:List Int) (N:Nat),v28=.int .i64 (j:Int)∧kq=ls.length-j∧j≤ls.length∧Qz (aQz ls (S0,P0,N0) j=(S,P,N))∧Qz (IsH W' g7 true S P N)∧Qz (Below w.heap.size w W'))
   case atStart=>exact⟨0,S0,P0,N0,rfl,rfl,Nat.zero_le _,⟨rfl⟩,HO6,HB6⟩
   case round=>
    clear HO6 HB6
    obtain⟨j,S,P,N,rfl,rfl,hj,HSJ,HO,HB⟩:=hrel
    have HNB:=Qz.k (show N≤64+j*1099511627776 from by
     have:=HNJ.out j hj
     rw [HSJ.out]at this
     have h2:N≤N0+j*1099511627776:=this
     have:=HN0.out
     omega)
    by_cases hlt2:j<ls.length
    ·have c5:decide ((j:Int)<(ls.length:Int))=true:=decide_eq_true (by omega)
     have c6:decide (j<ls.length)=true:=decide_eq_true hlt2
     have HW2:=Qz.k (show wrap64 ((j:Int)+1)=((j+1:Nat):Int)from by have:=HLS.out;rw [agq (by omega) (by omega)];omega)
     obtain⟨ad,Aj,cj,e5,hxj,hlj,hij⟩:=bVk HR.out (j:Int) (by omega) (by omega)
     subst e5
     rw [Int.toNat_natCast]at hxj
     replace hxj:=(HB.out.cell (World.block_lt_of_cell? w _ hxj)).trans hxj
     have HBJ:=Qz.k (HBL.out j hlt2)
     have HNX:=Qz.k (show aQz ls (S0,P0,N0) (j+1)=aSz (aDq ls (j:Int)).length S P N (aDq ls (j:Int))from by rw [aQz,HSJ.out])
     generalize aDq ls (j:Int)=b at *
     have HVB:=Qz.k (show Kd.V (Kd.int .u8) 5 wr 0 (fun k=>k≠g7) (.slice Aj b.length cj) b from Kd.bRq (Kd.V_below (Kd.V_bound (Kd.V_mk hlj (F_of_C hij))) HB.out) (fun k hk=>by have:=hk.2;have:=GE3.out;have:=GE7.out;omega))
     obtain⟨st1,h1⟩:∃ st1,aSz b.length S P N b=st1:=⟨_,rfl⟩
     obtain⟨S1,P1,N1⟩:=st1
     rw [h1]at HNX
     have HH:=Qz.k h1
     clear hlj hij h1
     go_wp2_with (fail)
     refine(sha_Write.calls g7 true S P N Aj cj b w wr HO.out HB.out (by have:=GE3.out;have:=GE7.out;omega) HVB.out (by have:=HNB.out;have:=HBJ.out;have:=HLS.out;omega) S1 P1 N1 (by rw [if_pos rfl];exact HH.out)).mono ?_
     rintro e w8 ⟨rfl,hi8,hb8,hk8⟩
     have HO8:=Qz.k hi8
     have HB8:=Qz.k hb8
     clear hi8 hb8 hk8 HO HB HVB
     go_wp2
     go_roundg (ls.length-(j+1))
     case measure=>exact(by have:=HLS.out;omega)
     case rel=>
      (try rw [HW2.out])
      exact⟨j+1,S1,P1,N1,rfl,rfl,hlt2,HNX,HO8,HB8⟩
    ·have c5:decide ((j:Int)<(ls.length:Int))=false:=decide_eq_false (by omega)
     have c6:decide (j<ls.length)=false:=decide_eq_false hlt2
     obtain rfl:j=ls.length:=by omega
     have HRF:=Qz.k (show R=hSum true S P N from by rw [HRE.out,HSJ.out])
     go_wp2_with (fail)
     refine(sha_Sum.calls g7 true S P N wr HO.out (by have:=HNB.out;have:=HLS.out;omega)).mono ?_
     rintro e w9 ⟨v9,rfl,ho9,hb9⟩
     have HR9:=Qz.k (Kd.aiq ho9 (afq HB.out))
     have HB9:=Qz.k (aaz HB.out hb9)
     clear ho9 hb9 HO HB
     go_wp2
     go_ret
     rw [HRF.out]
     exact⟨_,rfl,HR9.out,HB9.out⟩
theorem row_one {W:World}{g:Nat}{A:Option Addr}{c:Nat}{l:List Int}(hcell:W.cell? ⟨g,0,none⟩=some (.slice A l.length c))(hle:l.length≤c)(hC:Kd.C (Kd.int .u8) W A l.length l):Kd.C (Kd.slice 5 (Kd.int .u8)) W (some ⟨g,0,none⟩) 1 [l]:=by
 refine⟨rfl,by decide,fun _=>⟨_,rfl,fun j p hj=>?_⟩⟩
 cases j with
 |succ j=>simp at hj
 |zero=>
  simp only [List.getElem?_cons_zero,Option.some.injEq]at hj
  subst hj
  refine⟨[.slice A l.length c],rfl,⟨A,c,rfl,hle,hC⟩,fun i u hu=>?_⟩
  cases i with
  |succ i=>simp at hu
  |zero=>
   simp only [List.getElem?_cons_zero,Option.some.injEq]at hu
   subst hu
   exact hcell
theorem Arr.copy {W:World}{g t:Nat}{l:List Int}(h:Arr W g t .u8 l){b:List Int}{ad:Addr}{c:Nat}(hb:Kd.C (Kd.int .u8) W (some ad) b.length b)(hl:b.length≤l.length)(ty:TypeId) :
  (Builtin.copy_ #[27,27] ty #[.slice (some ⟨g,0,none⟩) l.length l.length,.slice (some ad) b.length c]).run Tryz.prog W=.ok (goInt b.length) (W.setRow g (arrV .u8 (b++l.drop b.length))):=by
 have hm:(b.map (Value.int .u8)).length=b.length:=List.length_map _
 have:=run_copy_row Tryz.prog W 27 27 ty 5 g 0 l.length l.length ad b.length c (arrV .u8 l) t (b.map (Value.int .u8)) Tryz.underlying27 (by kernel_rfl) h (by rw [hm];exact(Nat.min_eq_left hl).symm)
  (fun j v hv=>by
   rw [List.getElem?_map]at hv
   obtain⟨x,hx,rfl⟩:=Option.map_eq_some_iff.1 hv
   have hj:=(List.getElem?_eq_some_iff.1 hx).1
   obtain⟨ad',e,hc⟩:=Kd.asz hb (j:Int) (by omega) (by omega)
   injection e with e
   subst e
   rw [Int.toNat_natCast]at hc
   rw [hc,aUk,List.getD_eq_getElem?_getD,hx]
   rfl)
  (by rw [hm,aYz];omega) (fun v hv=>by obtain⟨x,_,rfl⟩:=List.mem_map.1 hv;rfl)
 rw [this,hm]
 refine congrArg (fun c=>Result.ok (goInt b.length) (W.setRow g c)) ?_
 rw [List.take_zero,List.nil_append,Nat.zero_add]
 simp [arrV]
def kOf (key:List Int):List Int:=key++(List.replicate 64 (0:Int)).drop key.length
theorem kOf_len {key:List Int}(h:key.length=32):(kOf key).length=64:=by simp [kOf,h]
def aDz (key:List Int)(ls:List (List Int)):List Int:=bBq (kOf key) 92 [bBq (kOf key) 54 ls]
theorem buk (ls:List (List Int))(st:List Int×List Int×Nat)(h1:st.1.length=8)(h2:st.2.1.length=64):∀ j,(aQz ls st j).1.length=8∧(aQz ls st j).2.1.length=64
 | 0=>⟨h1,h2⟩
 |j+1=>aOk _ _ _ _ _ (buk ls st h1 h2 j).1 (buk ls st h1 h2 j).2
theorem bBk (ls:List (List Int))(st:List Int×List Int×Nat)(h1:st.1.length=8)(h2:st.2.1.length=64):(hSum true (aQz ls st ls.length).1 (aQz ls st ls.length).2.1 (aQz ls st ls.length).2.2).length=32:=hSum_len (buk ls st h1 h2 _).1 (buk ls st h1 h2 _).2 _
theorem b1q (key:List Int)(x:Int)(ls:List (List Int)):(bBq key x ls).length=32:=bBk ls _ (aOk _ _ _ _ _ rfl List.length_replicate).1 (aOk _ _ _ _ _ rfl List.length_replicate).2
theorem aGq (key:List Int)(ls:List (List Int)):(aDz key ls).length=32:=b1q _ _ _
theorem hmacOf_by (key:List Int)(ls:List (List Int)):∀ x∈aDz key ls,0≤x∧x<256:=bHk _
set_option maxHeartbeats 1000000 in
theorem hmac_all.calls (A0:Option Addr)(c0:Nat)(key:List Int)(A1:Option Addr)(c1:Nat)(ls:List (List Int))(w:World)(hr0:Kd.C (Kd.int .u8) w A0 key.length key)(hc0:key.length≤c0)(hk:key.length=32)(hr1:Kd.C (Kd.slice 5 (Kd.int .u8)) w A1 ls.length ls)(hc1:ls.length≤c1)(hl:ls.length<1024)(hb:∀ b∈ls,b.length<1099511627776) :
  Calls Tryz.prog 97 #[.slice A0 key.length c0,.slice A1 ls.length c1] w fun e w'=>∃ v0_:Value,e=.returned v0_∧Kd.R (Kd.int .u8) 5 w' w.heap.size (fun _=>True) v0_ (aDz key ls)∧Below w.heap.size w w':=by
 have HK:=Qz.k hk
 have HR0:=Qz.k hr0
 have HC0:=Qz.k hc0
 have HR1:=Qz.k hr1
 have HC1:=Qz.k hc1
 have HLS:=Qz.k hl
 have HBL:=Qz.k hb
 obtain⟨KB,hKB⟩:∃ KB,kOf key=KB:=⟨_,rfl⟩
 have HKB:=Qz.k (show KB.length=64 from by rw [←hKB];exact kOf_len hk)
 have HKE:=Qz.k (show key++(List.replicate 64 (0:Int)).drop key.length=KB from hKB)
 have HS1:=Qz.k (fun w1 (h:Kd.C (Kd.slice 5 (Kd.int .u8)) w1 A1 ls.length ls)=>hmac_summed.calls KB (by rw [←hKB];exact kOf_len hk) 54 A1 c1 ls w1 h hc1 hl hb)
 obtain⟨IN,hIN⟩:∃ IN,bBq KB 54 ls=IN:=⟨_,rfl⟩
 have HINL:=Qz.k (show IN.length=32 from by rw [←hIN];exact b1q _ _ _)
 rw [hIN]at HS1
 obtain⟨R,hR⟩:∃ R,aDz key ls=R:=⟨_,rfl⟩
 have HRE:=Qz.k (show bBq KB 92 [IN]=R from by rw [←hR,aDz,hKB,hIN])
 have HS2:=Qz.k (show ∀ (w1:World) (A:Option Addr) (c:Nat),Kd.C (Kd.slice 5 (Kd.int .u8)) w1 A 1 [IN]→1≤c→Calls Tryz.prog 159 #[.agg (arrV .u8 KB),.int .u8 92,.slice A 1 c] w1 fun e w'=>∃ v0_:Value,e=.returned v0_∧Kd.R (Kd.int .u8) 5 w' w1.heap.size (fun _=>True) v0_ R∧Below w1.heap.size w1 w' from fun w1 A c h hc=>by
  have:=hmac_summed.calls KB HKB.out 92 A c [IN] w1 h hc (show 1<1024 by decide) (fun b hb=>by rw [List.mem_singleton.1 hb,HINL.out];decide)
  rw [HRE.out]at this
  exact this)
 rw [hR]
 have HI64:=Qz.k (show ∀ l:List Int,l.length=64→(Tryz.prog.info? 178).map (·.size)=some l.length from fun l hl=>by rw [hl];kernel_rfl)
 have e1:decide (64<(key.length:Int))=false:=decide_eq_false (by omega)
 have e2:decide (64<key.length)=false:=decide_eq_false (by omega)
 clear hr0 hc0 hk hr1 hc1 hl hb hKB hIN hR
 obtain⟨ad,ea,_⟩:=Kd.asz HR0.out ((0:Nat):Int) (by omega) (by have:=HK.out;omega)
 subst ea
 go_enter Tryz.func97,Tryz.ntmps97
 go_upto_region 4 with(first
  |((with_reducible refine ahk (N:=5) rfl ?_);refine aik ?hg (N:=5) ?hd (cs:=arrV .u8 (List.replicate 64 0)) (t:=178) ?hr ?_;(case hd=>rfl);(case hg=>rfl);(case hr=>first|(go_simp;done)|(go_simp;rfl));intro g5 hg w5 hbox hb;have HB5:=Qz.k hb;have HA5:=Qz.k (show Arr w5 g5 178 .u8 (List.replicate 64 0)from hbox);have GE5:=Qz.k ((by rw [hg];exact Nat.le_refl _):w.heap.size≤g5);clear hbox hb hg))
 have HCP:=Qz.k (Arr.copy HA5.out (b:=key) (ad:=ad) (c:=c0) (Kd.acz HR0.out HB5.out) (by rw [HK.out];decide) 3)
 rw [HKE.out,show(List.replicate 64 (0:Int)).length=64 from rfl]at HCP
 have hcopy:=HCP.out
 go_upto_region 5 with(fail)
 have HA6:=Qz.k (Arr.row HA5.out KB)
 have HB6:=Qz.k (anz (g:=g5) (c:=arrV .u8 KB) HB5.out GE5.out)
 clear hcopy HCP HA5 HB5
 generalize w5.setRow g5 (arrV .u8 KB)=wa at *
 have HA7:=Qz.k (Arr.drew HA6.out)
 have HB7:=Qz.k (aez HB6.out)
 have HLD:=Qz.k (Arr.load HA7.out Tryz.underlying178 (HI64.out KB HKB.out))
 have HR1d:=Qz.k (Kd.acz HR1.out HB7.out)
 refine axq (n:=7) (S:=fun w'=>(Instr.loadAt 178 (.pointer (some ⟨g5,0,none⟩))).run Tryz.prog w'=.ok (.agg (arrV .u8 KB)) w') (ds:=[]) (bl 7 0) (by kernel_rfl) rfl rfl (HLD.out) (fun hHeld=>?_)
 refine pu_ 2 16 ?_ ?_ (bl 7 4) rfl rfl (by kernel_rfl) ?_ ?_ ?_
 rotate_left 2
 ·intro w';go_simp;with_reducible rfl
 ·simp only [Act.put,putA,putZ,putS,abq,abk];rfl
 refine tk_ 0 14 ?_ ?_ (bl 7 5) rfl rfl (by kernel_rfl) hHeld ?_ ?_ ?_
 rotate_left 2
 ·intro w' s0;refine Eq.trans (a3q (v := .agg (arrV .u8 KB)) 178 (.tmp 5) (.pointer (some ⟨g5,0,none⟩)) ?_ ?_ s0) ?_ <;> rfl
 ·simp only [Act.put,putA,putZ,putS,abq,abk];rfl
 refine tk_ 1 15 ?_ ?_ (bl 7 7) rfl rfl (by kernel_rfl) hHeld ?_ ?_ ?_
 rotate_left 2
 ·intro w' s0;refine Eq.trans (a3q (v := .agg (arrV .u8 KB)) 178 (.tmp 5) (.pointer (some ⟨g5,0,none⟩)) ?_ ?_ s0) ?_ <;> rfl
 ·simp only [Act.put,putA,putZ,putS,abq,abk];rfl
 refine one_ (i:=3) (N:=some 17) (bl 7 15) rfl rfl (by kernel_rfl) (by decide) (fun K hK=>?_)
 refine aFq Tryz.func159 (by kernel_rfl) rfl #[.agg (arrV .u8 KB),.int .u8 54,.slice A1 ls.length c1] (by rfl) rfl rfl (by simp only [List.map_toArray,List.map_cons,List.map_nil];first|done|rfl) ?_
 with_reducible refine(HS1.out _ HR1d.out).mono ?_
 rintro e w8 ⟨v8,rfl,ho8,hb8⟩
 refine⟨_,rfl,?_⟩
 obtain⟨A8,c8,e8⟩:=Kd.afz ho8
 subst e8
 have HI8:=Qz.k (Kd.ack ho8)
 have HB8:=Qz.k (aaz HB7.out hb8)
 have HA8:=Qz.k (Arr.below HA7.out hb8)
 clear ho8 hb8
 refine hK.out _ _ (Arr.load HA8.out Tryz.underlying178 (HI64.out KB HKB.out)) (fun hHeld=>?_)
 clear hK K
 refine aHz (a':=?_) ?_ ?_
 rotate_left
 ·show Act.put _ (some 17) _=_
  simp only [Act.put,putA,putZ,putS,abq,abk]
  rfl
 refine one_ (i:=4) (N:=some 18) (bl 7 31) rfl rfl (by kernel_rfl) (by decide) (fun K hK=>?_)
 refine aAq (w1:=w8.alloc (.cells #[.slice A8 IN.length c8] 27)) (v := .slice (some ⟨w8.heap.size,0,none⟩) 1 1) (by rfl) rfl ?_ ?_
 ·go_simp
 have HB9:=Qz.k (aaq HB8.out (.cells #[.slice A8 IN.length c8] 27))
 have HI9:=Qz.k (row_one (W:=w8.alloc (.cells #[.slice A8 IN.length c8] 27)) (g:=w8.heap.size) (A:=A8) (c:=c8) (l:=IN) ((aak (akz w8 _) 0).trans rfl) HI8.out.2.1 (Kd.acz HI8.out.2.2 (aaq (Below.refl _ _) _)))
 have HA9:=Qz.k (Arr.alloc HA8.out (.cells #[.slice A8 IN.length c8] 27))
 refine hK.out _ _ (Arr.load HA9.out Tryz.underlying178 (HI64.out KB HKB.out)) (fun hHeld=>?_)
 clear hK K
 refine aHz (a':=?_) ?_ ?_
 rotate_left
 ·show Act.put _ (some 18) _=_
  simp only [Act.put,putA,putZ,putS,abq,abk]
  rfl
 refine one_ (i:=5) (N:=some 19) (bl 7 63) rfl rfl (by kernel_rfl) (by decide) (fun K hK=>?_)
 refine aFq Tryz.func159 (by kernel_rfl) rfl #[.agg (arrV .u8 KB),.int .u8 92,.slice (some ⟨w8.heap.size,0,none⟩) 1 1] (by rfl) rfl rfl (by simp only [List.map_toArray,List.map_cons,List.map_nil];first|done|rfl) ?_
 with_reducible refine(HS2.out _ _ 1 HI9.out (Nat.le_refl _)).mono ?_
 rintro e w10 ⟨v10,rfl,ho10,hb10⟩
 refine⟨_,rfl,?_⟩
 have HR10:=Qz.k (Kd.aiq ho10 (afq HB9.out))
 have HB10:=Qz.k (aaz HB9.out hb10)
 have HA10:=Qz.k (Arr.below HA9.out hb10)
 clear ho10 hb10
 refine hK.out _ _ (Arr.load HA10.out Tryz.underlying178 (HI64.out KB HKB.out)) (fun hHeld=>?_)
 clear hK K
 refine aHz (a':=?_) ?_ ?_
 rotate_left
 ·show Act.put _ (some 19) _=_
  simp only [Act.put,putA,putZ,putS,abq,abk]
  rfl
 refine pu_ 6 4 ?_ ?_ (bl 7 127) rfl rfl (by kernel_rfl) ?_ ?_ ?_
 rotate_left 2
 ·intro w';go_simp;with_reducible rfl
 ·simp only [Act.put,putA,putZ,putS,abq,abk];rfl
 refine aPz (by kernel_rfl) ?_
 go_wp2
 go_ret
 exact⟨_,rfl,HR10.out,HB10.out⟩
set_option maxHeartbeats 1000000 in
theorem hmac_MAC.calls (A0:Option Addr)(c0:Nat)(key:List Int)(A1:Option Addr)(c1:Nat)(l1:List Int)(w:World)(hr0:Kd.C (Kd.int .u8) w A0 key.length key)(hc0:key.length≤c0)(hk:key.length=32)(hr1:Kd.C (Kd.int .u8) w A1 l1.length l1)(hc1:l1.length≤c1)(hl:l1.length<1099511627776) :
  Calls Tryz.prog 53 #[.slice A0 key.length c0,.slice A1 l1.length c1] w fun e w'=>∃ v0_:Value,e=.returned v0_∧Kd.R (Kd.int .u8) 5 w' w.heap.size (fun _=>True) v0_ (aDz key [l1])∧Below w.heap.size w w':=by
 have HA:=Qz.k (show ∀ (w1:World) (A:Option Addr),Below w.heap.size w w1→Kd.C (Kd.slice 5 (Kd.int .u8)) w1 A 1 [l1]→Calls Tryz.prog 97 #[.slice A0 key.length c0,.slice A 1 1] w1 fun e w'=>∃ v0_:Value,e=.returned v0_∧Kd.R (Kd.int .u8) 5 w' w1.heap.size (fun _=>True) v0_ (aDz key [l1])∧Below w1.heap.size w1 w' from fun w1 A hb h=>hmac_all.calls A0 c0 key A 1 [l1] w1 (Kd.acz hr0 hb) hc0 hk h (Nat.le_refl 1) (show 1<1024 by decide) (fun b hb=>by rw [List.mem_singleton.1 hb];exact hl))
 have HR1:=Qz.k hr1
 have HC1:=Qz.k hc1
 generalize aDz key [l1]=R at *
 clear hr0 hc0 hk hr1 hc1 hl
 go_enter Tryz.func53,Tryz.ntmps53
 have HI9:=Qz.k (row_one (W:=w.alloc (.cells #[.slice A1 l1.length c1] 27)) (g:=w.heap.size) (A:=A1) (c:=c1) (l:=l1) ((aak (akz w _) 0).trans rfl) HC1.out (Kd.acz HR1.out (aaq (Below.refl _ _) _)))
 have HB9:=Qz.k (aaq (Below.refl w.heap.size w) (.cells #[.slice A1 l1.length c1] 27))
 go_wp2_with (fail)
 refine(HA.out _ _ HB9.out HI9.out).mono ?_
 rintro e w10 ⟨v10,rfl,ho10,hb10⟩
 have HR10:=Qz.k (Kd.aiq ho10 (afq HB9.out))
 have HB10:=Qz.k (aaz HB9.out hb10)
 clear ho10 hb10
 go_wp2
 go_ret
 exact⟨_,rfl,HR10.out,HB10.out⟩
end Go.Proofs.YthggdomocichdaaGreatDoor.P
namespace Go.Proofs.YthggdomocichdaaGreatDoor.P
open Go.RowKit Go.Proofs.YthggdomocichdaaGreatDoor.Kit Go.Proofs.YthggdomocichdaaGreatDoorW.PrintWords Go.Proofs.YthggdomocichdaaGreatDoorW.PrintLast Go.Proofs.YthggdomocichdaaGreatDoorW.PrintMore
attribute [local go_sem] Oper.semAt_some
theorem byte_one {W:World}{g:Nat}{x:Int}(hcell:W.cell? ⟨g,0,none⟩=some (.int .u8 x)):Kd.C (Kd.int .u8) W (some ⟨g,0,none⟩) 1 [x]:=by
 refine⟨rfl,by decide,fun _=>⟨_,rfl,fun j p hj=>?_⟩⟩
 cases j with
 |succ j=>simp at hj
 |zero=>
  simp only [List.getElem?_cons_zero,Option.some.injEq]at hj
  subst hj
  refine⟨[.int .u8 x],rfl,rfl,fun i u hu=>?_⟩
  cases i with
  |succ i=>simp at hu
  |zero=>
   simp only [List.getElem?_cons_zero,Option.some.injEq]at hu
   subst hu
   exact hcell
theorem brq {W:World}{g j:Nat}{A:Option Addr}{c:Nat}{l:List Int}(hcell:W.cell? ⟨g,j,none⟩=some (.slice A l.length c))(hle:l.length≤c)(hC:Kd.C (Kd.int .u8) W A l.length l) :
  ∃ cs:List Value,cs.length=(Kd.slice 5 (Kd.int .u8)).sz∧(Kd.slice 5 (Kd.int .u8)).K W l cs∧∀ i u,cs[i]? = some u→W.cell? ((⟨g,0,none⟩:Addr).add (j*(Kd.slice 5 (Kd.int .u8)).sz+i))=some u:=by
 refine⟨[.slice A l.length c],rfl,⟨A,c,rfl,hle,hC⟩,fun i u hu=>?_⟩
 cases i with
 |succ i=>simp at hu
 |zero=>
  simp only [List.getElem?_cons_zero,Option.some.injEq]at hu
  subst hu
  show W.cell? ((⟨g,0,none⟩:Addr).add (j*1+0))=_
  rw [addr_add,Nat.mul_one,Nat.add_zero,Nat.zero_add]
  exact hcell
theorem row_two {W:World}{g:Nat}{A B:Option Addr}{c d:Nat}{l m:List Int}(h0:W.cell? ⟨g,0,none⟩=some (.slice A l.length c))(hle:l.length≤c)(hC:Kd.C (Kd.int .u8) W A l.length l)
  (h1:W.cell? ⟨g,1,none⟩=some (.slice B m.length d)) (hld:m.length≤d) (hD:Kd.C (Kd.int .u8) W B m.length m):Kd.C (Kd.slice 5 (Kd.int .u8)) W (some ⟨g,0,none⟩) 2 [l,m]:=by
 refine⟨rfl,by decide,fun _=>⟨_,rfl,fun j p hj=>?_⟩⟩
 match j,hj with
 | 0,hj=>
  simp only [List.getElem?_cons_zero,Option.some.injEq]at hj
  subst hj
  exact brq (j:=0) h0 hle hC
 | 1,hj=>
  simp only [List.getElem?_cons_succ,List.getElem?_cons_zero,Option.some.injEq]at hj
  subst hj
  exact brq (j:=1) h1 hld hD
 |j+2,hj=>simp at hj
theorem bJz {W:World}{g:Nat}{A B C:Option Addr}{c d e:Nat}{l m k:List Int}(h0:W.cell? ⟨g,0,none⟩=some (.slice A l.length c))(hle:l.length≤c)(hC:Kd.C (Kd.int .u8) W A l.length l)
  (h1:W.cell? ⟨g,1,none⟩=some (.slice B m.length d)) (hld:m.length≤d) (hD:Kd.C (Kd.int .u8) W B m.length m)
  (h2:W.cell? ⟨g,2,none⟩=some (.slice C k.length e)) (hlk:k.length≤e) (hE:Kd.C (Kd.int .u8) W C k.length k):Kd.C (Kd.slice 5 (Kd.int .u8)) W (some ⟨g,0,none⟩) 3 [l,m,k]:=by
 refine⟨rfl,by decide,fun _=>⟨_,rfl,fun j p hj=>?_⟩⟩
 match j,hj with
 | 0,hj=>
  simp only [List.getElem?_cons_zero,Option.some.injEq]at hj
  subst hj
  exact brq (j:=0) h0 hle hC
 | 1,hj=>
  simp only [List.getElem?_cons_succ,List.getElem?_cons_zero,Option.some.injEq]at hj
  subst hj
  exact brq (j:=1) h1 hld hD
 | 2,hj=>
  simp only [List.getElem?_cons_succ,List.getElem?_cons_zero,Option.some.injEq]at hj
  subst hj
  exact brq (j:=2) h2 hlk hE
 |j+3,hj=>simp at hj
set_option maxHeartbeats 4000000 in
theorem pieces_yields (F:Fence)(n:Nat)(hfn:∀ k,F.fn k)(hro:F.round=none)(hn:2≤n)(B:Nat)(A0:Option Addr)(c0:Nat)(key:List Int)(A1:Option Addr)(c1:Nat)(info:List Int)(w0 w:World)(hB:Below w0.heap.size w0 w)
  (hkc:w.cell? ⟨B,0,none⟩=some (.slice A0 key.length c0)) (hic:w.cell? ⟨B+1,0,none⟩=some (.slice A1 info.length c1)) (hc1:info.length≤c1) (hr1:Kd.C (Kd.int .u8) w0 A1 info.length info) (T1:List Int)
  (hAll:∀ (w1:World) (A:Option Addr),Below w0.heap.size w0 w1→Kd.C (Kd.slice 5 (Kd.int .u8)) w1 A 3 [[],info,[1]]→CallsIn F (n-1) Tryz.prog 97 #[.slice A0 key.length c0,.slice A 3 3] w1 fun e w'=>∃ v0_:Value,e=.returned v0_∧Kd.R (Kd.int .u8) 5 w' w1.heap.size (fun _=>True) v0_ T1∧Below w1.heap.size w1 w') :
  Yields F n Tryz.prog 204 #[.pointer (some ⟨B,0,none⟩),.pointer (some ⟨B+1,0,none⟩)] (fun x:Value=>#[x]) (fun pre x W=>pre=[]→Kd.R (Kd.int .u8) 5 W w.heap.size (fun _=>True) x T1) (fun _ _=>True) (fun _=>False) (fun _=>False) (fun pre=>pre.length=1) w:=by
 intro l J Jx W hBW hJb hY h0
 have HBW:=Qz.k hBW
 have hk1:W.cell? ⟨B,0,none⟩=some (.slice A0 key.length c0):=(hBW.cell (World.block_lt_of_cell? w _ hkc)).trans hkc
 have hi1:W.cell? ⟨B+1,0,none⟩=some (.slice A1 info.length c1):=(hBW.cell (World.block_lt_of_cell? w _ hic)).trans hic
 have HB1:=Qz.k (hB.trans (hBW.mono hB.size))
 have HAL:=Qz.k hAll
 have HY:=Qz.k hY
 have HJ:=Qz.k hJb
 have HR1:=Qz.k hr1
 have h1:1≤n:=by omega
 clear hBW hkc hic hAll hY hJb hr1 hB
 refine callsIn_of_wp Tryz.func204 rfl (hfn _) ?_ hro
 simp only [Tryz.ntmps204,List.size_toArray,List.length_cons,List.length_nil,Nat.reduceAdd,Nat.reduceSub,Array.replicate_succ,Array.replicate_zero,List.push_toArray,List.append_toArray,List.nil_append,List.cons_append]
 gi_wp2
 refine wpIn_loop_rounds 1 ?_
 rw [roundsIn_succ]
 gi_wp2_with (fail)
 have hs1:(W.alloc (.cells #[.int .u8 1] 5)).heap.size=W.heap.size+1:=World.size_alloc ..
 have hb2:Below W.heap.size W ((W.alloc (.cells #[.int .u8 1] 5)).alloc (.cells #[.slice none 0 0,.slice A1 info.length c1,.slice (some ⟨W.heap.size,0,none⟩) 1 1] 27)):=((Below.refl _ W).alloc (Nat.le_refl _) _).alloc (by rw [hs1];omega) _
 have hs2:W.heap.size≤((W.alloc (.cells #[.int .u8 1] 5)).alloc (.cells #[.slice none 0 0,.slice A1 info.length c1,.slice (some ⟨W.heap.size,0,none⟩) 1 1] 27)).heap.size:=hb2.size
 have hcb:∀ i,((W.alloc (.cells #[.int .u8 1] 5)).alloc (.cells #[.slice none 0 0,.slice A1 info.length c1,.slice (some ⟨W.heap.size,0,none⟩) 1 1] 27)).cell? ⟨W.heap.size+1,i,none⟩=#[.slice none 0 0,.slice A1 info.length c1,.slice (some ⟨W.heap.size,0,none⟩) 1 1][i]? := fun i=>by
  have:=aak (akz (W.alloc (.cells #[.int .u8 1] 5)) (.cells #[.slice none 0 0,.slice A1 info.length c1,.slice (some ⟨W.heap.size,0,none⟩) 1 1] 27)) i
  rwa [hs1]at this
 have hca:((W.alloc (.cells #[.int .u8 1] 5)).alloc (.cells #[.slice none 0 0,.slice A1 info.length c1,.slice (some ⟨W.heap.size,0,none⟩) 1 1] 27)).cell? ⟨W.heap.size,0,none⟩=some (.int .u8 1):=abz (aaq (Below.refl _ _) _) ((aak (akz W (.cells #[.int .u8 1] 5)) 0).trans rfl)
 have hc3:=bJz (l:=[]) (m:=info) (k:=[1]) ((hcb 0).trans rfl) (Nat.le_refl 0) (Kd.a7q _ _) ((hcb 1).trans rfl) hc1 (Kd.acz HR1.out (HB1.out.trans (hb2.mono HB1.out.size))) ((hcb 2).trans rfl) (Nat.le_refl 1) (byte_one hca)
 refine(HAL.out _ _ (HB1.out.trans (hb2.mono HB1.out.size)) hc3).mono ?_
 rintro e W5 ⟨v0,rfl,ho,hb⟩
 obtain⟨fn,tmps,assign,body,hy,hR⟩:=HY.out [] v0 W5 (HJ.out _ _ _ h0 (aaz hb2 hb)) (fun _=>Kd.aiq ho (Nat.le_trans HBW.out.size hs2))
 clear hcb hca hc3
 gi_wp2
 refine hR.mono ?_
 rintro e W6 (⟨rfl,hf,_⟩|⟨rfl,hjx⟩)
 ·exact hf.elim
 ·gi_wp2
  refine bodyPost_ret (results_none rfl _ _ _) rfl ?_
  exact⟨⟨_,rfl⟩,.inr ⟨[v0],rfl,hjx⟩⟩
end Go.Proofs.YthggdomocichdaaGreatDoor.P
namespace Go.Proofs.YthggdomocichdaaGreatDoor.P
open Go.RowKit Go.Shelf Go.Proofs.YthggdomocichdaaGreatDoor.Kit Go.Proofs.YthggdomocichdaaGreatDoorW.PrintWords Go.Proofs.YthggdomocichdaaGreatDoorW.PrintLast Go.Proofs.YthggdomocichdaaGreatDoorW.PrintMore
attribute [local go_sem] Oper.semAt_some
theorem pieces_call (F:Fence)(n:Nat)(hf:F.fn 162)(hro:F.round=none)(A0:Option Addr)(n0 c0:Nat)(A1:Option Addr)(n1 c1:Nat)(w:World):CallsIn F n Tryz.prog 162 #[.slice A0 n0 c0,.slice A1 n1 c1] w fun e w'=>
  e=.returned (.func (.func 204) #[] #[.pointer (some ⟨w.heap.size,0,none⟩),.pointer (some ⟨w.heap.size+1,0,none⟩)])∧w'=(w.alloc (.cells #[.slice A0 n0 c0] 27)).alloc (.cells #[.slice A1 n1 c1] 27):=by
 refine callsIn_of_wp Tryz.func162 rfl hf ?_ hro
 simp only [Tryz.ntmps162,List.size_toArray,List.length_cons,List.length_nil,Nat.reduceAdd,Nat.reduceSub,Array.replicate_succ,Array.replicate_zero,List.push_toArray,List.append_toArray,List.nil_append,List.cons_append]
 gi_wp2
 go_ret
 exact⟨rfl,rfl⟩
section
variable {F:Fence}{n:Nat}{P:Program}{ops:Array Oper}{rest:List Oper}{o:Oper}{a:Act}{Q:Exit→Act→World→Prop}
theorem a8k {w0 W:World}(base:Nat)(hgd:o.guard=none)(s x:Operand)(t e:TypeId)(bytes:Nat)(ho:o.op=.call { callee := .builtin .append,args:=#[s,x],argTypes:=#[t,t] })
  (ht:P.underlying t=some (.slice e)) (hinfo:(P.info? e).map (fun i=>(i.zero,i.size,i.bytes))=some (some (.int .u8 0),1,bytes)) (hb0:0<bytes)
  (v:Value) (xs ys:List Int) (A:Option Addr) (m c:Nat) (hs:a.eval s=v) (hx:a.eval x=.slice A m c) (HO:Kd.R (Kd.int .u8) e W base (fun _=>True) v xs) (HR:Kd.C (Kd.int .u8) W A m ys) (HB:Below base w0 W) (hbase:base≤W.heap.size) (hl:(xs.length+m)*bytes≤140737488355328)
  (h:∀ v1 w1,Kd.R (Kd.int .u8) e w1 base (fun _=>True) v1 (xs++ys)→Below base w0 w1→W.grownBy w1 v.ownBlock→(v1.ownBlock=v.ownBlock∨∃ b,v1.ownBlock=some b∧W.heap.size≤b)→wpListIn F n P ops Q rest (a.put o.dst v1) w1):wpListIn F n P ops Q (o :: rest) a W:=by
 have hw:Region.wanted o (yielded ops a.tmps)=true:=by simp [Region.wanted,hgd]
 have h2:=Kd.avq (P:=P) (ops:=ops) (Q:=fun _ _ _=>False) (Kc:=fun a' w1=>wpListIn F n P ops Q rest a' w1) (o:=o) (a:=a) (Kd.int .u8) (w0:=w0) (W:=W) base hw s x t e (.int .u8 0) bytes ho ht hinfo rfl (by decide) hb0 v xs ys A m c (fun _=>True) (fun _=>False) hs hx HO HR (fun _ _ h=>h) (fun _ h=>h.elim) (fun _ _=>trivial) HB hbase hl h
 rw [if_pos hw]at h2
 exact append_in hgd ho h2 (fun _ _ h=>h)
end
theorem bpz {B e base:Nat}{v:Value}{xs:List Int}:bnk B (fun W=>Kd.R (Kd.int .u8) e W base (fun _=>True) v xs):=fun A l o o' hl ho hc hr=>
 Kd.R_grown1 hr rfl (grownBy_putObj' A l o') (fun hh=>by
  obtain⟨_,_,_,q,_,cs,hq⟩:=(Kd.axz hr).1 l hh.symm
  rw [ho]at hq
  injection hq with hq
  subst hq
  cases hc)
set_option maxHeartbeats 4000000 in
theorem Expand_in (F:Fence)(n:Nat)(hfn:∀ k,F.fn k)(hro:F.round=none)(hn:4≤n)(A0:Option Addr)(c0:Nat)(key:List Int)(A1:Option Addr)(c1:Nat)(info:List Int)(w:World)(hr1:Kd.C (Kd.int .u8) w A1 info.length info)(hc1:info.length≤c1)(T1:List Int)(hT:T1.length=32)
  (hAll:∀ (w1:World) (A:Option Addr),Below w.heap.size w w1→Kd.C (Kd.slice 5 (Kd.int .u8)) w1 A 3 [[],info,[1]]→CallsIn F (n-1-1) Tryz.prog 97 #[.slice A0 key.length c0,.slice A 3 3] w1 fun e w'=>∃ v0_:Value,e=.returned v0_∧Kd.R (Kd.int .u8) 5 w' w1.heap.size (fun _=>True) v0_ T1∧Below w1.heap.size w1 w') :
  CallsIn F n Tryz.prog 109 #[.slice A0 key.length c0,.slice A1 info.length c1,.int .i64 32] w fun e w'=>∃ v,e=.returned (.tuple #[v,.int .i64 0])∧Kd.R (Kd.int .u8) 5 w' w.heap.size (fun _=>True) v T1∧Below w.heap.size w w':=by
 have h1:1≤n:=by omega
 refine callsIn_of_wp_marks Tryz.func109 rfl (hfn _) ?_ hro
 simp only [Tryz.ntmps109,List.size_toArray,List.length_cons,List.length_nil,Nat.reduceAdd,Nat.reduceSub,Array.replicate_succ,Array.replicate_zero,List.push_toArray,List.append_toArray,List.nil_append,List.cons_append]
 gi_wp2_with (gi_at_call 162;refine(pieces_call F (n-1) (hfn _) hro _ _ _ _ _ _ _).mono ?_;rintro e w' ⟨rfl,rfl⟩)
 obtain⟨W1,hW1⟩:∃ W1,w.alloc (.cells #[.int .i64 32] 3)=W1:=⟨_,rfl⟩
 obtain⟨W2,hW2⟩:∃ W2,W1.alloc (.cells #[] 5)=W2:=⟨_,rfl⟩
 obtain⟨W3,hW3⟩:∃ W3,W2.alloc (.cells #[.slice (some ⟨w.heap.size+1,0,none⟩) 0 0] 27)=W3:=⟨_,rfl⟩
 obtain⟨W4,hW4⟩:∃ W4,W3.alloc (.cells #[.slice A0 key.length c0] 27)=W4:=⟨_,rfl⟩
 obtain⟨W5,hW5⟩:∃ W5,W4.alloc (.cells #[.slice A1 info.length c1] 27)=W5:=⟨_,rfl⟩
 rw [hW1,hW2,hW3,hW4,hW5]
 have s1:W1.heap.size=w.heap.size+1:=by rw [←hW1,World.size_alloc]
 have s2:W2.heap.size=w.heap.size+2:=by rw [←hW2,World.size_alloc,s1]
 have s3:W3.heap.size=w.heap.size+3:=by rw [←hW3,World.size_alloc,s2]
 have s4:W4.heap.size=w.heap.size+4:=by rw [←hW4,World.size_alloc,s3]
 have s5:W5.heap.size=w.heap.size+5:=by rw [←hW5,World.size_alloc,s4]
 have b45:Below W4.heap.size W4 W5:=by rw [←hW5];exact aaq (Below.refl _ _) _
 have b34:Below W3.heap.size W3 W4:=by rw [←hW4];exact aaq (Below.refl _ _) _
 have b23:Below W2.heap.size W2 W3:=by rw [←hW3];exact aaq (Below.refl _ _) _
 have b12:Below W1.heap.size W1 W2:=by rw [←hW2];exact aaq (Below.refl _ _) _
 have b01:Below w.heap.size w W1:=by rw [←hW1];exact aaq (Below.refl _ _) _
 have b35:Below W3.heap.size W3 W5:=aaz b34 b45
 have b25:Below W2.heap.size W2 W5:=aaz b23 b35
 have b15:Below W1.heap.size W1 W5:=aaz b12 b25
 have hB5:Below w.heap.size w W5:=aaz b01 b15
 have k0:W5.cell? ⟨w.heap.size,0,none⟩=some (.int .i64 32):=abz b15 (by rw [←hW1];exact(aak (akz w _) 0).trans rfl)
 have kh0:W5.heap[w.heap.size]? = some (.cells #[.int .i64 32] 3 (0,0)):=by
  have h2:W1.heap[w.heap.size]? = some (.cells #[.int .i64 32] 3 (0,0)):=by rw [←hW1];exact akz w _
  exact(b15.block _ (by omega)).trans h2
 have k1:W5.heap[w.heap.size+1]? = some (.cells #[] 5 (0,0)):=by
  have h2:W2.heap[w.heap.size+1]? = some (.cells #[] 5 (0,0)):=by rw [←hW2,←s1];exact akz W1 _
  exact(b25.block _ (by omega)).trans h2
 have k2:W5.heap[w.heap.size+2]? = some (.cells #[.slice (some ⟨w.heap.size+1,0,none⟩) 0 0] 27 (0,0)):=by
  have h2:W3.heap[w.heap.size+2]? = some (.cells #[.slice (some ⟨w.heap.size+1,0,none⟩) 0 0] 27 (0,0)):=by rw [←hW3,←s2];exact akz W2 _
  exact(b35.block _ (by omega)).trans h2
 have k3:W5.cell? ⟨w.heap.size+1+1+1,0,none⟩=some (.slice A0 key.length c0):=abz b45 (by rw [←hW4,←s3];exact(aak (akz W3 _) 0).trans rfl)
 have k4:W5.cell? ⟨w.heap.size+1+1+1+1,0,none⟩=some (.slice A1 info.length c1):=by rw [←hW5,←s4];exact(aak (akz W4 _) 0).trans rfl
 have kR:Kd.R (Kd.int .u8) 5 W5 w.heap.size (fun _=>True) (.slice (some ⟨w.heap.size+1,0,none⟩) 0 0) ([]:List Int):=⟨fun _ _=>trivial,[],⟨rfl,.inr ⟨_,0,#[],rfl,by omega,k1,Nat.le_refl _,by decide,rfl,rfl⟩⟩,Reps.none _ _⟩
 clear hW1 hW2 hW3 hW4 hW5 b45 b34 b23 b12 b01 b35 b25 b15 s1 s2 s3 s4 k1
 refine bYk (α := Value) hro h1 (gf:=204) (lb:=#[.pointer (some ⟨w.heap.size+1+1+1,0,none⟩),.pointer (some ⟨w.heap.size+1+1+1+1,0,none⟩)]) rfl (hfn _) (enters_of Tryz.func204 (by kernel_rfl) rfl)
  (pieces_yields F (n-1) hfn hro (by omega) (w.heap.size+1+1+1) A0 c0 key A1 c1 info w W5 hB5 k3 k4 hc1 hr1 T1 hAll)
  (fun _ _=>trivial) (fun _ _ _ _ _ _ _=>trivial) (fun _=>rfl)
  (fun pre W=>pre=[]∧Below W5.heap.size W5 W)
  (fun c pre W=>c=.exit 0∧(W.cell? ⟨w.heap.size,0,none⟩=some (.int .i64 32)∧(Below w.heap.size w W∧∃ v,W.cell? ⟨w.heap.size+2,0,none⟩=some v∧Kd.R (Kd.int .u8) 5 W w.heap.size (fun _=>True) v T1)))
  (fun pre A l o o' hl ho hc h=>⟨h.1,bkq (Nat.le_refl _) A l o o' hl ho hc h.2⟩)
  (fun pre A B h hb=>⟨h.1,h.2.trans (hb.mono h.2.size)⟩)
  (fun c pre A l o o' hl ho hc h=>⟨h.1,bWz (by simp;omega) A l o o' hl ho hc h.2.1,bkq (by omega) A l o o' hl ho hc h.2.2.1,by
   obtain⟨v,hv,hr⟩:=h.2.2.2
   exact⟨v,bWz (by simp;omega) A l o o' hl ho hc hv,bpz A l o o' hl ho hc hr⟩⟩)
  (fun pre x A l o o' hl ho hc h e=>bpz A l o o' hl ho hc (h e))
  (fun pre x W h=>by have:=h.1;simp at this)
  ⟨rfl,Below.refl _ _⟩
  (fun x=>{ tmps:=#[.slice A0 key.length c0,.slice A1 info.length c1,.int .i64 32,undef,undef,.pointer (some ⟨w.heap.size,0,none⟩),.slice none 0 0,.int .i64 0,.pointer (some ⟨w.heap.size+1+1,0,none⟩),x,.int .i64 32,.bool false,.bool false,.int .i64 32,.bool false,.bool false,.slice (some ⟨w.heap.size+1,0,none⟩) 0 0,.int .i64 32,.bool false,undef,.slice A0 key.length c0,.slice A1 info.length c1,
   .func (.func 204) #[] #[.pointer (some ⟨w.heap.size+1+1+1,0,none⟩),.pointer (some ⟨w.heap.size+1+1+1+1,0,none⟩)],x,undef,undef,undef,undef,undef,undef,undef,undef,undef,undef],defers:=[] }) ?assign ?body ?done ?stop
 case assign=>
  intro l x W K hK
  gi_wp2
  exact hK
 case body=>
  rintro l pre x W ⟨rfl,hb⟩ hx
  have HX:=Qz.k (hx rfl)
  obtain⟨Ax,cx,ex⟩:=Kd.afz HX.out
  subst ex
  have f0:W.cell? ⟨w.heap.size,0,none⟩=some (.int .i64 32):=abz hb k0
  have fh0:W.heap[w.heap.size]? = some (.cells #[.int .i64 32] 3 (0,0)):=(hb.block _ (by omega)).trans kh0
  have f2:W.heap[w.heap.size+2]? = some (.cells #[.slice (some ⟨w.heap.size+1,0,none⟩) 0 0] 27 (0,0)):=(hb.block _ (by omega)).trans k2
  have f3:W.cell? ⟨w.heap.size+1+1,0,none⟩=some (.slice (some ⟨w.heap.size+1,0,none⟩) 0 0):=(aak f2 0).trans rfl
  have HO:=Qz.k (Kd.ahz kR hb)
  have HB:=Qz.k (hB5.trans (hb.mono hB5.size))
  have HW5:=Qz.k hb
  have HT:=Qz.k hT
  clear k0 k2 k3 k4 kR hb hx kh0
  dsimp only
  gi_wp2_with (first
   |(refine a8k (w0:=w) w.heap.size rfl (.tmp 24) (.tmp 25) 27 5 1 rfl Tryz.underlying27 info5 (by decide) (.slice (some ⟨w.heap.size+1,0,none⟩) 0 0) [] T1 _ _ _ rfl rfl HO.out (Kd.ack HX.out).2.2 HB.out HB.out.size (by rw [hT];decide) ?_;intro v26 w26 ho hb hg hat;rw [List.nil_append]at ho;obtain⟨A26,c26,e26⟩:=Kd.afz ho;subst e26;have hz2:=ark f2 hg (by simp [Value.ownBlock]);have hz0:=ark fh0 hg (by simp [Value.ownBlock]);have hc2:w26.cell? ⟨w.heap.size+1+1,0,none⟩=some (.slice (some ⟨w.heap.size+1,0,none⟩) 0 0):=(aak hz2 0).trans rfl;have hf2:w26.frozen? ⟨w.heap.size+1+1,0,none⟩=false:=afk hz2 0;have hc0:w26.cell? ⟨w.heap.size,0,none⟩=some (.int .i64 32):=(aak hz0 0).trans rfl;have HO6:=Qz.k ho;have HB6:=Qz.k hb;have HG6:=Qz.k hg;have HZ2:=Qz.k hz2;clear ho hb hg hat))
  rw [hT]at HO6
  refine⟨(KeepsFrom.of_grownBy HG6.out (fun j e=>by simp only [Value.ownBlock,Option.some.injEq]at e;omega)).trans ((KeepsOthers.setCell _ _ _).from _),rfl,(World.cell?_setCell_other _ _ _ _ (by intro e;injection e with e1;omega)).trans hc0,HB6.out.setCell (p:=⟨w.heap.size+1+1,0,none⟩) (by simp;omega) _,_,World.cell?_setCell_same' _ _ _ (by rw [hc2];rfl),?_⟩
  exact Kd.R_grown1 HO6.out rfl (grownBy_setCell' w26 (w.heap.size+1+1) _) (Kd.R_ne HO6.out HZ2.out (by decide))
 case done=>
  rintro D xs W hD h
  exact h.elim
 case stop=>
  rintro D c pre W hD hp ⟨rfl,h0,hB,v,hv,hr⟩ hK
  obtain⟨Av,cv,ev⟩:=Kd.afz hr
  subst ev
  clear k0 k2 k3 k4 kR kh0
  have hv2:W.cell? ⟨w.heap.size+1+1,0,none⟩=some (.slice Av T1.length cv):=hv
  have HR:=Qz.k hr
  have n1:(32:Int)≤(cv:Int):=by have:=(Kd.ack hr).2.1;omega
  have n2:32≤cv:=by omega
  obtain⟨ad,c,e⟩:=Kd.a0k hr (by omega)
  injection e with e1 _ e3
  subst e1
  subst e3
  clear hr
  gi_wp2
  refine⟨by simp,.inl ⟨_,_,rfl,run_takeDeferred hK,?_⟩⟩
  have hfin:=bpz (B:=0) W D _ (.deferred none) (Nat.zero_le _) hK rfl HR.out
  rw [hT]at hfin
  exact⟨_,results_tmp2 rfl _ _ _,.slice (some ad) 32 _,rfl,hfin,hB.trans (bvk _ (by omega) hK)⟩
def bMz (key info:List Int):List Int:=aDz key [[],info,[1]]
theorem bLk (key info:List Int):(bMz key info).length=32:=aGq _ _
theorem hmac_Expand.calls (A0:Option Addr)(c0:Nat)(key:List Int)(A1:Option Addr)(c1:Nat)(info:List Int)(w:World)(hr0:Kd.C (Kd.int .u8) w A0 key.length key)(hc0:key.length≤c0)(hk:key.length=32)(hr1:Kd.C (Kd.int .u8) w A1 info.length info)(hc1:info.length≤c1)(hl:info.length<1099511627776) :
  Calls Tryz.prog 109 #[.slice A0 key.length c0,.slice A1 info.length c1,.int .i64 32] w fun e w'=>∃ v,e=.returned (.tuple #[v,.int .i64 0])∧Kd.R (Kd.int .u8) 5 w' w.heap.size (fun _=>True) v (bMz key info)∧Below w.heap.size w w':=
 (callsIn_wide (n:=4)).1 (Expand_in Fence.wide 4 (fun _=>trivial) rfl (Nat.le_refl _) A0 c0 key A1 c1 info w hr1 hc1 (bMz key info) (bLk _ _) (fun w1 A hb h=>(callsIn_wide (n:=2)).2 (hmac_all.calls A0 c0 key A 3 [[],info,[1]] w1 (Kd.acz hr0 hb) hc0 hk h (Nat.le_refl 3) (show 3<1024 by decide) (fun b hb=>by
  simp only [List.mem_cons,List.not_mem_nil,or_false]at hb
  rcases hb with rfl|rfl|rfl
  ·decide
  ·exact hl
  ·decide))))
theorem C_of_cells {W W':World}{A:Option Addr}{n:Nat}{xs:List Int}(h:Kd.C (Kd.int .u8) W A n xs)(hh:∀ p v,W.cell? p=some v→W'.cell? p=some v):Kd.C (Kd.int .u8) W' A n xs:=by
 refine⟨h.1,h.2.1,fun hn=>?_⟩
 obtain⟨ad,e,hr⟩:=h.2.2 hn
 refine⟨ad,e,fun j q hj=>?_⟩
 obtain⟨cs,h1,h2,h3⟩:=hr j q hj
 exact⟨cs,h1,h2,fun i x hx=>hh _ _ (h3 i x hx)⟩
theorem cells_put {A:World}{l:Nat}{o:Obj}(o':Obj)(h:A.heap[l]? = some o)(ho:o.isCells=false){p:Addr}{v:Value}(hp:A.cell? p=some v):(A.putObj l o').cell? p=some v:=by
 have hne:p.block≠l:=fun e=>by
  unfold World.cell? at hp
  rw [e,h]at hp
  cases o <;> simp_all [Obj.isCells]
 exact(World.cell?_of_block (World.putObj_heap_other hne)).trans hp
theorem turns_C {B:Nat}{A:Option Addr}{n:Nat}{xs:List Int}:bnk B (fun W=>Kd.C (Kd.int .u8) W A n xs):=fun W l o o' hl ho hc h=>C_of_cells h (fun p v hp=>cells_put o' ho hc hp)
theorem turns_blk {B g:Nat}{cs:Array Value}{t:TypeId}{q:Nat×Nat}:bnk B (fun W=>W.heap[g]? = some (.cells cs t q)):=fun W l o o' hl ho hc h=>by
 have hne:g≠l:=fun e=>by
  rw [e,ho]at h
  injection h with h
  subst h
  cases hc
 exact(World.putObj_heap_other hne).trans h
def okT (wf:Nat→List Int×Int)(j:Nat):List Nat:=(List.range j).filter fun t=>decide ((wf t).2=0)
theorem okT_yes {wf:Nat→List Int×Int}{j:Nat}(h:(wf j).2=0):okT wf (j+1)=okT wf j ++ [j]:=by simp [okT,List.range_succ,h]
theorem okT_no {wf:Nat→List Int×Int}{j:Nat}(h:¬ (wf j).2=0):okT wf (j+1)=okT wf j:=by simp [okT,List.range_succ,h]
abbrev encV (x:Nat×Value):Array Value:=#[.int .i64 (x.1:Int),x.2]
def XV (wf:Nat→List Int×Int)(pre:List (Nat×Value))(x:Nat×Value)(W:World):Prop:=x.1<4∧∃ (A:Option Addr) (c:Nat),x.2=.slice A (wf x.1).1.length c∧(wf x.1).1.length≤c∧Kd.C (Kd.int .u8) W A (wf x.1).1.length (wf x.1).1
def KV (n₀ g:Nat)(A B:World):Prop:=Below n₀ A B∧∀ o,A.heap[g]? = some o→o.isCells=true→B.heap[g]? = some o
set_option maxHeartbeats 4000000 in
theorem all_yields (F:Fence)(n:Nat)(hfn:∀ k,F.fn k)(hro:F.round=none)(hn:2≤n)(wf:Nat→List Int×Int)(l:List Int)(A0:Option Addr)(c0 g:Nat)(w0 w:World)(hB:Below w0.heap.size w0 w)(hbox:w.heap[g]? = some (.cells #[.slice A0 l.length c0] 81 (0,0)))
  (hWay:∀ (t:Nat),t<4→∀ w1:World,Below w0.heap.size w0 w1→CallsIn F (n-1) Tryz.prog 151 #[.slice A0 l.length c0,.int .i64 (t:Int)] w1 fun e w'=>∃ v0_:Value,e=.returned (.tuple #[v0_,.int .i64 (wf t).2])∧Kd.R (Kd.int .u8) 5 w' w1.heap.size (fun _=>True) v0_ (wf t).1∧Below w1.heap.size w1 w') :
  Yields F n Tryz.prog 150 #[.pointer (some ⟨g,0,none⟩)] encV (XV wf) (KV w0.heap.size g) (fun _=>True) (fun xs=>xs.map (·.1)=okT wf 4) (fun _=>True) w:=by
 intro lp J Jx W hBW hJb hY h0
 have HBX:=Qz.k (agz hbox hBW)
 have HB1:=Qz.k (hB.trans (hBW.mono hB.size))
 have HWY:=Qz.k hWay
 have HY:=Qz.k hY
 have HJ:=Qz.k hJb
 have h1:1≤n:=by omega
 clear hBW hbox hWay hY hJb hB
 refine callsIn_of_wp Tryz.func150 rfl (hfn _) ?_ hro
 simp only [Tryz.ntmps150,List.size_toArray,List.length_cons,List.length_nil,Nat.reduceAdd,Nat.reduceSub,Array.replicate_succ,Array.replicate_zero,List.push_toArray,List.append_toArray,List.nil_append,List.cons_append]
 gi_wp2
 gi_loopw [6] (fun p wr=>∃ (j:Nat) (pre:List (Nat×Value)),j≤4∧p=.int .i64 (j:Int)∧J pre wr∧Qz (pre.map (·.1)=okT wf j)∧Qz (Below w0.heap.size w0 wr)∧Qz (wr.heap[g]? = some (.cells #[.slice A0 l.length c0] 81 (0,0)))) (fun p wr=>4-(intOf p).toNat)
 case atStart=>exact⟨0,[],by decide,rfl,h0,⟨rfl⟩,HB1,HBX⟩
 case round=>
  clear HB1 HBX h0
  obtain⟨j,pre,hj,rfl,hJs,HM,HB,HX⟩:=hrel
  by_cases h4:j<4
  ·have c5:decide ((j:Int)<4)=true:=decide_eq_true (by omega)
   have c6:(j:Int)<4:=by omega
   have hbx:wr.cell? ⟨g,0,none⟩=some (.slice A0 l.length c0):=(aak HX.out 0).trans rfl
   gi_wp2_with (fail)
   refine(HWY.out j h4 _ HB.out).mono ?_
   rintro e W3 ⟨v3,rfl,ho,hb⟩
   obtain⟨A3,c3,e3⟩:=Kd.afz ho
   subst e3
   have hJ3:=HJ.out _ _ _ hJs hb
   have HXV:=Qz.k (show XV wf pre (j,.slice A3 (wf j).1.length c3) W3 from⟨h4,A3,c3,rfl,(Kd.ack ho).2.1,(Kd.ack ho).2.2⟩)
   replace HX:=Qz.k (agz HX.out hb)
   replace HB:=Qz.k (aaz HB.out hb)
   clear ho hb hbx hJs
   have hw:wrap64 ((j:Int)+1)=((j+1:Nat):Int):=by rw [agq (by omega) (by omega)];omega
   have HOK:=Qz.k (fun h:(wf j).2=0=>okT_yes h)
   have HNO:=Qz.k (fun h:¬ (wf j).2=0=>okT_no h)
   obtain⟨ej,hej⟩:∃ e_,(wf j).2=e_:=⟨_,rfl⟩
   rw [hej]at HOK HNO
   rw [hej]
   clear hej
   by_cases he:ej=0
   ·subst he
    obtain⟨fn,tmps,assign,body,hy,hR⟩:=HY.out pre (j,.slice A3 (wf j).1.length c3) W3 hJ3 HXV.out
    dsimp only [encV]at hy
    gi_wp2
    refine hR.mono ?_
    rintro e W4 (⟨rfl,_,hJ4,hK4⟩|⟨rfl,hjx⟩)
    ·gi_wp2
     go_roundw
     case rel=>exact⟨j+1,pre ++ [(j,.slice A3 (wf j).1.length c3)],h4,by(try rw [hw]);rfl,hJ4,⟨by rw [List.map_append,HM.out,HOK.out (by first|rfl|trivial)];rfl⟩,⟨HB.out.trans hK4.1⟩,⟨hK4.2 _ HX.out rfl⟩⟩
     case measure=>(try rw [hw]);show 4-(((j+1:Nat):Int)).toNat<4-((j:Int)).toNat;omega
    ·gi_wp2
     refine bodyPost_ret (results_none rfl _ _ _) rfl ?_
     exact⟨⟨_,rfl⟩,.inr ⟨_,trivial,hjx⟩⟩
   ·have d1:decide (ej=0)=false:=decide_eq_false he
    have d2:(ej == 0)=false:=by simp [he]
    gi_wp2
    go_roundw
    case rel=>exact⟨j+1,pre,h4,by(try rw [hw]);rfl,hJ3,⟨by rw [HM.out,HNO.out he]⟩,HB,HX⟩
    case measure=>(try rw [hw]);show 4-(((j+1:Nat):Int)).toNat<4-((j:Int)).toNat;omega
  ·obtain rfl:j=4:=by omega
   gi_wp2
   go_end0
   exact⟨⟨_,rfl⟩,.inl ⟨pre,HM.out,hJs⟩⟩
end Go.Proofs.YthggdomocichdaaGreatDoor.P
