/- Put together: Bld, Spl, Chk2, Chk3, Open, Awk. -/
import Derived.Laws.ResultCell
import Derived.Test.YthggdomocichdaaGreatDoorZ31
set_option maxRecDepth 100000
set_option linter.unusedVariables false
set_option linter.unusedSimpArgs false
namespace Go.Proofs.YthggdomocichdaaGreatDoor.P
open Go.RowKit Go.Proofs.YthggdomocichdaaGreatDoor.Kit Go.Proofs.YthggdomocichdaaGreatDoor.Var Go.Proofs.YthggdomocichdaaGreatDoorW.PrintWords Go.Proofs.YthggdomocichdaaGreatDoorW.PrintLast Go.Proofs.YthggdomocichdaaGreatDoorW.PrintMore
theorem bJq {P:Program}{fn:Func}{t p v:Tmp}{ty:TypeId}(h:fn.results=#[.tmp t,.cell p ty,.tmp v])(tmps:Array Value)(w:World)(g:Nat)(tt:TypeId)(cs:Array Value)(d:TypeDesc)
  (hp:tmps.getD p undef=.pointer (some ⟨g,0,none⟩)) (hg:w.heap[g]? = some (.cells cs tt (0,0)))
  (hu:P.underlying ty=some d) (hd:(match d with | .struct _ | .array _ _=>true | _=>false)=true) (hi:(P.info? ty).map (·.size)=some cs.size) :
  (results fn tmps).run P w=.ok (.tuple #[tmps.getD t undef,.agg cs,tmps.getD v undef]) w:=by
 have hp':tmps[p]?.getD undef=.pointer (some ⟨g,0,none⟩):=by simpa using hp
 simp [results,h,hp',asAddr,run_loadVar_row w g tt ty cs (0,0) d hg hu hd hi]
theorem bIz (enc:S43→List Int)(x:S43)(h:(enc x).length≤4194300):ayq enc x<16777216:=by
 have hb:=aXk ((enc x).length:Int) (by omega) (by omega)
 unfold ayq
 generalize (arz ((enc x).length:Int)).1=k at *
 have h0:=hb.2.1
 have h8:=hb.2.2.1
 rw [bDq]
 obtain rfl|rfl|rfl|rfl|rfl|rfl|rfl|rfl|rfl:k=0∨k=1∨k=2∨k=3∨k=4∨k=5∨k=6∨k=7∨k=8:=by omega
 all_goals decide
theorem cats_len_le {ls:List (List Int)}(hl:ls.length≤8)(hb:∀ b∈ls,b.length<16777216):(cats ls ls.length).length≤134217728:=by
 rw [bEk]
 exact Nat.le_trans (lens_le hb _ (Nat.le_refl _)) (Nat.le_trans (Nat.mul_le_mul_right _ hl) (by decide))
set_option maxHeartbeats 8000000 in
theorem archive_Build.calls (enc:S43→List Int)(PT:List Int→Prop)(Pr:List Int→List Int→Prop)(A0:Option Addr)(c0:Nat)(key:List Int)(ver:Int)(A3:Option Addr)(c3:Nat)(l:List S43)(w:World)(hr0:Kd.C (Kd.int .u8) w A0 key.length key)(hc0:key.length≤c0)(hk:key.length=32)(hv:0≤ver∧ver<18446744073709551615)(hr1:Kd.C k43 w A3 l.length l)(hl:l.length≤8)
  (hnm:∀ x∈l,x.f0.size=3) (hel:∀ x∈l,(enc x).length≤4194300)
  (hEnc:∀ x∈l,∀ (w1:World) (A:Option Addr) (c:Nat),Below w.heap.size w w1→Kd.C k56 w1 A x.f1.length x.f1→x.f1.length≤c→Calls Tryz.prog 14 #[.agg #[.string x.f0,.slice A x.f1.length c]] w1 fun e w'=>∃ v,e=.returned (.tuple #[v,.int .i64 0])∧Kd.R (Kd.int .u8) 5 w' w1.heap.size (fun _=>True) v (enc x)∧Below w1.heap.size w1 w')
  (hRoot:∀ (W:World) (A:Option Addr) (c:Nat) (ss:List (List Int)),Below w.heap.size w W→ss.map List.length=l.map (ayq enc)→Kd.C (Kd.slice 5 (Kd.int .u8)) W A ss.length ss→ss.length≤c→Calls Tryz.prog 23 #[.slice A ss.length c] W fun e w'=>∃ (A':Option Addr) (c':Nat) (T:List Int),e=.returned (.slice A' 32 c')∧32≤c'∧PT T∧Kd.C (Kd.int .u8) w' A' 32 T∧Below W.heap.size W w')
  (hpr:∀ T r,Pr T r→0<r.length∧r.length<1048576)
  (hMan:∀ (W:World) (A1 A2 A4:Option Addr) (c1 c2 c4:Nat) (T:List Int),PT T→Below w.heap.size w W→Kd.C (Kd.int .u8) W A1 32 (List.replicate 32 0)→Kd.C k75 W A2 l.length (l.map (aWk enc))→Kd.C (Kd.int .u8) W A4 32 T →
   Calls Tryz.prog 51 #[.agg #[.int .u64 ver,.slice A1 32 c1,.slice A2 l.length c2,.slice A4 32 c4]] W fun e w'=>∃ (v:Value) (r:List Int),e=.returned (.tuple #[v,.int .i64 0])∧Pr T r∧Kd.R (Kd.int .u8) 5 w' W.heap.size (fun _=>True) v r∧Below W.heap.size W w') :
  Calls Tryz.prog 8 #[.slice A0 key.length c0,.agg #[.int .u64 0,.slice none 0 0],.int .u64 ver,.slice A3 l.length c3] w fun e w'=>∃ (v:Value) (T r:List Int) (ss:List (List Int)) (A':Option Addr) (c':Nat),e=.returned (.tuple #[v,.agg #[.int .u64 ver,.slice A' 32 c'],.int .i64 0])∧PT T∧Pr T r∧ss.map List.length=l.map (ayq enc) ∧
   Kd.R (Kd.int .u8) 5 w' w.heap.size (fun _=>True) v (avz (r++aDz (derived key 4 aEz) [r])++cats ss ss.length)∧Kd.C (Kd.int .u8) w' A' 32 T∧32≤c'∧Below w.heap.size w w':=by
 have HSA:=Qz.k (fun(W:World) (h:Below w.heap.size w W)=>archive_sealedAll.calls enc A0 c0 key ver A3 c3 l W (Kd.acz hr0 h) hc0 hk (Kd.acz hr1 h) (by omega) hnm hel (fun x hx w1 A c hb hr hc=>hEnc x hx w1 A c (aaz h hb) hr hc))
 have HSG:=Qz.k (fun(m:Array Value) (T:List Int) (W:World) (h:Below w.heap.size w W) hm hE=>manifest_Sign.calls (Pr T) A0 c0 key m W (Kd.acz hr0 h) hc0 hk hm (hpr T) hE)
 have HRT:=Qz.k hRoot
 have HMN:=Qz.k hMan
 have HPR:=Qz.k hpr
 have HSL:=Qz.k (show ∀ ss:List (List Int),ss.map List.length=l.map (ayq enc)→ss.length≤8∧∀ b∈ss,b.length<16777216 from fun ss hs=>by
  have h1:=congrArg List.length hs
  rw [List.length_map,List.length_map]at h1
  refine⟨by omega,fun b hb=>?_⟩
  have h2:b.length∈ss.map List.length:=List.mem_map.2 ⟨b,hb,rfl⟩
  rw [hs]at h2
  obtain⟨x,hx,he⟩:=List.mem_map.1 h2
  rw [←he]
  exact bIz enc x (hel x hx))
 have HLL:=Qz.k hl
 have HV:=Qz.k hv
 generalize derived key 4 aEz=D at *
 have e0:(key.length:Int)=32:=by omega
 have e1:((key.length:Int) == 32)=true:=by rw [hk];rfl
 have e2:(key.length == 32)=true:=by rw [hk];rfl
 have e3:decide ((key.length:Int)=32)=true:=by rw [hk];rfl
 have e4:decide (key.length=32)=true:=by rw [hk];rfl
 have f1:(ver == 18446744073709551615)=false:=by simp;omega
 have f2:decide (ver=18446744073709551615)=false:=decide_eq_false (by omega)
 have g1:decide (1048576<(l.length:Int))=false:=decide_eq_false (by omega)
 have g2:decide (1048576<l.length)=false:=decide_eq_false (by omega)
 clear hr0 hc0 hk hv hr1 hl hnm hel hEnc hRoot hpr hMan
 go_enter Tryz.func8,Tryz.ntmps8
 go_wp2_with (fail)
 have hb0:=aaq (aaq (Below.refl w.heap.size w) (.cells #[.int .u64 0,.slice none 0 0] 29)) (.cells #[.int .u64 0,.slice none 0 0] 29)
 obtain⟨g9,hg9⟩:∃ g_,w.heap.size+1=g_:=⟨_,rfl⟩
 have HN9:=Qz.k (show w.heap.size≤g9∧w.heap.size≠g9 from by omega)
 obtain⟨W0,hW0⟩:∃ W0,(w.alloc (.cells #[.int .u64 0,.slice none 0 0] 29)).alloc (.cells #[.int .u64 0,.slice none 0 0] 29)=W0:=⟨_,rfl⟩
 have HG5:=Qz.k (show W0.heap[w.heap.size]? = some (.cells #[.int .u64 0,.slice none 0 0] 29 (0,0))from by rw [←hW0];exact agz (akz w _) (aaq (Below.refl _ _) _))
 have HG9:=Qz.k (show W0.heap[g9]? = some (.cells #[.int .u64 0,.slice none 0 0] 29 (0,0))from by rw [←hW0,←hg9,←World.size_alloc w (.cells #[.int .u64 0,.slice none 0 0] 29)];exact akz (w.alloc (.cells #[.int .u64 0,.slice none 0 0] 29)) _)
 rw [hW0]at hb0
 rw [hW0,hg9]
 have HB:=Qz.k hb0
 clear hb0 hW0 hg9
 have HRI:=Qz.k (fun(W:World)=>archive_right.calls 0 none 0 [] true W (Kd.a7q _ _) (Nat.le_refl 0) (by rfl))
 have HTR:=Qz.k (fun(W:World)=>archive_trusts.calls 0 none 0 [] false W (Kd.a7q _ _) (Nat.le_refl 0) (by rfl))
 have HCN:=Qz.k (fun(W:World)=>slices_Clone_byte_byte.calls none 0 [] [] W (Kd.a7q _ _) (Nat.le_refl 0) (by rfl))
 refine(HRI.out _).mono ?_
 rintro e W1 ⟨rfl,hb⟩
 replace HG5:=Qz.k (agz HG5.out hb)
 replace HG9:=Qz.k (agz HG9.out hb)
 replace HB:=Qz.k (aaz HB.out hb)
 clear hb
 have hp0:W1.cell? ⟨w.heap.size,0,none⟩=some (.int .u64 0):=(aak HG5.out 0).trans rfl
 have hp1:W1.cell? ⟨w.heap.size,1,none⟩=some (.slice none 0 0):=(aak HG5.out 1).trans rfl
 go_wp2_with (fail)
 refine(HTR.out _).mono ?_
 rintro e W2 ⟨rfl,hb⟩
 replace HG5:=Qz.k (agz HG5.out hb)
 replace HG9:=Qz.k (agz HG9.out hb)
 replace HB:=Qz.k (aaz HB.out hb)
 clear hb hp0 hp1
 go_wp2_with (fail)
 refine(HSA.out _ HB.out).mono ?_
 rintro e W3 ⟨v58,v59,ss,rfl,hsl,hs,he,hb⟩
 obtain⟨As,cs,es⟩:=Kd.afz hs
 subst es
 obtain⟨Ae,ce,ee⟩:=Kd.afz he
 rw [List.length_map]at ee
 subst ee
 have HSS:=Qz.k (Kd.ack hs).2
 have HEE:=Qz.k (Kd.ack he).2.2
 rw [List.length_map]at HEE
 have HML:=Qz.k hsl
 have HSB:=Qz.k (HSL.out ss hsl)
 have HCL:=Qz.k (cats_len_le HSB.out.1 HSB.out.2)
 replace HG5:=Qz.k (agz HG5.out hb)
 replace HG9:=Qz.k (agz HG9.out hb)
 replace HB:=Qz.k (aaz HB.out hb)
 clear hb hs he hsl HSA HSL
 have hp1:W3.cell? ⟨w.heap.size,1,none⟩=some (.slice none 0 0):=(aak HG5.out 1).trans rfl
 go_wp2_with (fail)
 refine(HCN.out _).mono ?_
 rintro e W4 ⟨v4,rfl,ho,hb⟩
 obtain⟨A4,c4,e4⟩:=Kd.afz ho
 replace e4:v4=.slice A4 0 c4:=e4
 subst e4
 replace HSS:=Qz.k (show _∧_ from⟨HSS.out.1,Kd.acz HSS.out.2 hb⟩)
 replace HEE:=Qz.k (Kd.acz HEE.out hb)
 replace HG5:=Qz.k (agz HG5.out hb)
 replace HG9:=Qz.k (agz HG9.out hb)
 replace HB:=Qz.k (aaz HB.out hb)
 clear ho hb hp1 HCN
 go_wp2_with (fail)
 refine(HRT.out _ As cs ss HB.out HML.out HSS.out.2 HSS.out.1).mono ?_
 rintro e W5 ⟨AT,cT,T,rfl,hcT,hPT,hT,hb⟩
 have HT:=Qz.k hT
 have HTC:=Qz.k hcT
 have HPT:=Qz.k hPT
 replace HSS:=Qz.k (show _∧_ from⟨HSS.out.1,Kd.acz HSS.out.2 hb⟩)
 replace HEE:=Qz.k (Kd.acz HEE.out hb)
 replace HG5:=Qz.k (agz HG5.out hb)
 replace HG9:=Qz.k (agz HG9.out hb)
 replace HB:=Qz.k (aaz HB.out hb)
 clear hb hT hcT hPT HRT
 have hp0:W5.cell? ⟨w.heap.size,0,none⟩=some (.int .u64 0):=(aak HG5.out 0).trans rfl
 have hp1:W5.cell? ⟨w.heap.size,1,none⟩=some (.slice none 0 0):=(aak HG5.out 1).trans rfl
 have hp2:=abz (aaq (Below.refl W5.heap.size W5) (.cells #[.int .u64 ver,.slice A4 0 c4,.slice Ae l.length ce,.slice AT 32 cT] 65)) hp0
 have hp3:=abz (aaq (Below.refl W5.heap.size W5) (.cells #[.int .u64 ver,.slice A4 0 c4,.slice Ae l.length ce,.slice AT 32 cT] 65)) hp1
 clear hp0 hp1
 go_wp2_with (fail)
 clear hp2 hp3
 have hb0:=aaq (Below.refl W5.heap.size W5) (.cells #[.int .u64 ver,.slice A4 0 c4,.slice Ae l.length ce,.slice AT 32 cT] 65)
 obtain⟨g14,hg14⟩:∃ g_,W5.heap.size=g_:=⟨_,rfl⟩
 have HN14:=Qz.k (show W5.heap.size≤g14 from by omega)
 obtain⟨W6,hW6⟩:∃ W_,W5.alloc (.cells #[.int .u64 ver,.slice A4 0 c4,.slice Ae l.length ce,.slice AT 32 cT] 65)=W_:=⟨_,rfl⟩
 have HG14:=Qz.k (show W6.heap[g14]? = some (.cells #[.int .u64 ver,.slice A4 0 c4,.slice Ae l.length ce,.slice AT 32 cT] 65 (0,0))from by rw [←hW6,←hg14];exact akz W5 _)
 rw [hW6]at hb0
 rw [hW6,hg14]
 have HW5:=Qz.k HB.out
 replace HB:=Qz.k hb0
 clear hb0 hW6 hg14 HG5
 refine(HTR.out _).mono ?_
 rintro e W7 ⟨rfl,hb⟩
 replace HG14:=Qz.k (agz HG14.out hb)
 replace HB:=Qz.k (aaz HB.out hb)
 clear hb HTR HRI
 go_wp2_with (first
  |((with_reducible refine ahk (N:=69) rfl ?_);refine Kd.bSq (Kd.int .u8) (w0:=W7) W7.heap.size 5 rfl (N:=69) rfl 27 _ _ rfl 32 rfl rfl Tryz.underlying27 (.int .u8 0) 1 info5 rfl (by decide) (by omega) 0 (ok:=fun _=>True) (okp:=fun _=>True) rfl (fun _ hk=>hk) trivial (by omega) (by omega) (Below.refl _ _) (Nat.le_refl _) ?_;intro v69 W8 ho hb hg_ hnew_;obtain⟨A69,c69,e69⟩:=Kd.afz ho;replace e69:v69=.slice A69 32 c69:=e69;subst e69;replace HG14:=Qz.k (agz HG14.out hb);have HZ:=Qz.k (Kd.aLk ho HG14.out (by decide));replace HB:=Qz.k (aaz HB.out hb);clear ho hb hg_ hnew_;have hs0:W8.cell? ⟨g14,0,none⟩=some (.int .u64 ver):=(aak HG14.out 0).trans rfl;have hs1:W8.cell? ⟨g14,1,none⟩=some (.slice A4 0 c4):=(aak HG14.out 1).trans rfl;have hs2:W8.cell? ⟨g14,2,none⟩=some (.slice Ae l.length ce):=(aak HG14.out 2).trans rfl;have hs3:W8.cell? ⟨g14,3,none⟩=some (.slice AT 32 cT):=(aak HG14.out 3).trans rfl;have hsf:=afk HG14.out 1))
 clear hs0 hs1 hs2 hs3 hsf
 obtain⟨W9,hW9⟩:∃ W_,W8.setCell ⟨g14,1,none⟩ (.slice A69 32 c69)=W_:=⟨_,rfl⟩
 rw [hW9]
 replace HG14:=Qz.k (show W9.heap[g14]? = some (.cells #[.int .u64 ver,.slice A69 32 c69,.slice Ae l.length ce,.slice AT 32 cT] 65 (0,0))from by rw [←hW9];exact anq HG14.out 1 _ rfl)
 replace HZ:=Qz.k (show Kd.C (Kd.int .u8) W9 A69 32 (List.replicate 32 0)from by rw [←hW9];exact(Kd.ack (Kd.aQq HZ.out (p:=⟨g14,1,none⟩) (fun k hk=>hk.2) (.slice A69 32 c69))).2.2)
 replace HB:=Qz.k (show Below W5.heap.size W5 W9 from by rw [←hW9];exact adq HB.out HN14.out)
 clear hW9
 refine(HSG.out _ T _ (aaz HW5.out HB.out) ⟨_,_,_,_,rfl⟩ (fun W hW=>HMN.out W A69 Ae AT c69 ce cT T HPT.out (aaz (aaz HW5.out HB.out) hW) (Kd.acz HZ.out hW) (Kd.acz (Kd.acz HEE.out HB.out) hW) (Kd.acz (Kd.acz HT.out HB.out) hW))).mono ?_
 rintro e W10 ⟨v10,r,rfl,hp,ho,hb⟩
 have HP:=Qz.k hp
 have nr:=Qz.k (HPR.out T r hp)
 obtain⟨S,hS⟩:∃ S_,r++aDz D [r]=S_:=⟨_,rfl⟩
 rw [hS]at ho
 have nS:=Qz.k (show S.length<1048608 from by rw [←hS,List.length_append,aGq];have:=nr.out;omega)
 have HSE:=Qz.k hS
 obtain⟨A10,c10,e10⟩:=Kd.afz ho
 subst e10
 have HSR:=Qz.k (Kd.ack ho).2
 replace HG14:=Qz.k (agz HG14.out hb)
 replace HB:=Qz.k (aaz HB.out hb)
 clear ho hb hp hS HSG HMN HPR HZ HEE
 go_wp2_with (fail)
 have HBK:=Qz.k (aIk A10 c10 S W10 HSR.out.2 HSR.out.1 (by have:=nS.out;omega))
 obtain⟨BS,hBS⟩:∃ S_,avz S=S_:=⟨_,rfl⟩
 rw [hBS]at HBK
 have nBS:=Qz.k (show BS.length<1048640 from by rw [←hBS,avz,List.length_append];have:=nS.out;have:=avk S.length (by omega);omega)
 have HBE:=Qz.k hBS
 clear hBS
 refine HBK.out.mono ?_
 rintro e W11 ⟨v11,rfl,ho,hb⟩
 obtain⟨A_BS,c_BS,e11⟩:=Kd.afz ho
 subst e11
 have HO:=Qz.k ho
 have HW10:=Qz.k HB.out
 replace HG14:=Qz.k (agz HG14.out hb)
 replace HB:=Qz.k hb
 clear ho hb HBK HSR
 go_wp2_with (fail)
 obtain⟨CT,hCT⟩:∃ S_,cats ss ss.length=S_:=⟨_,rfl⟩
 have HCE:=Qz.k hCT
 have HCC:=Qz.k (slices_Concat.calls As cs ss W11 (Kd.acz HSS.out.2 (aaz HW10.out HB.out)) HSB.out.1 HSB.out.2)
 rw [hCT]at HCC HCL
 clear hCT
 refine HCC.out.mono ?_
 rintro e W12 ⟨v12,rfl,ho,hb⟩
 obtain⟨A12,c12,e12⟩:=Kd.afz ho
 subst e12
 have HS4:=Qz.k (Kd.ack ho).2.2
 replace HO:=Qz.k (Kd.ahz HO.out hb)
 replace HG14:=Qz.k (agz HG14.out hb)
 replace HB:=Qz.k (aaz HB.out hb)
 clear ho hb HCC
 go_wp2_with (first
  |((with_reducible refine agk (b := .append) (xs:=#[.tmp 82,.tmp 84]) rfl ?_);at_builtin;refine Kd.ahq (Kd.int .u8) (w0:=W10) W10.heap.size rfl (.tmp 82) (.tmp 84) 27 5 (.int .u8 0) 1 rfl Tryz.underlying27 info5 rfl (by decide) (by omega) (.slice A_BS BS.length c_BS) BS CT _ _ _ (fun _=>True) (fun _=>False) rfl rfl HO.out (HS4.out) (fun _ _ h=>h) (fun _ h=>h.elim) (fun _ _=>trivial) (HB.out) (Below.size (HB.out)) (by have:=nBS.out;have:=HCL.out;omega) ?_;intro v_LF W13 ho hb hg hat;obtain⟨LF,hLF⟩:∃ L_,BS++CT=L_:=⟨_,rfl⟩;rw [hLF]at ho;have nLF:=Qz.k (show True from by trivial);have HLF:=Qz.k hLF;clear hLF;obtain⟨A_LF,c_LF,e_LF⟩:=Kd.afz ho;subst e_LF;replace HG14:=Qz.k (ark HG14.out hg (Kd.R_ne HO.out HG14.out (by decide)));replace HO:=Qz.k ho;replace HB:=Qz.k hb;clear ho hb hg hat))
 have HG9F:=Qz.k (agz HG9.out (aaz HW10.out HB.out))
 have HTF:=Qz.k (Kd.acz HT.out (aaz HW10.out HB.out))
 have hq3:W13.cell? ⟨g14,3,none⟩=some (.slice AT 32 cT):=(aak HG14.out 3).trans rfl
 have hq0:W13.cell? ⟨g9,0,none⟩=some (.int .u64 0):=(aak HG9F.out 0).trans rfl
 have hq1:W13.cell? ⟨g9,1,none⟩=some (.slice none 0 0):=(aak HG9F.out 1).trans rfl
 have hqf0:=afk HG9F.out 0
 have hqf1:=afk HG9F.out 1
 go_region
 go_wp2
 have HOF:=Kd.aLk HO.out HG9F.out (by decide)
 have HG1:=anq (anq HG9F.out 0 (.int .u64 ver) rfl) 1 (.slice AT 32 cT) rfl
 have hTF:=aJk (aJk HTF.out (.int .u64 ver) hq0 (fun x hx=>by cases hx)) (.slice AT 32 cT) ((World.cell?_setCell_other _ _ _ _ (by simp)).trans hq1) (fun x hx=>by cases hx)
 refine bodyPost_ret (bJq rfl _ _ g9 29 #[.int .u64 ver,.slice AT 32 cT] _ rfl (aoz HG1) Tryz.underlying29 rfl (by kernel_rfl)) rfl ?_
 refine⟨_,T,r,ss,AT,cT,rfl,HPT.out,HP.out,HML.out,?_,Kd.atq hTF,HTC.out,?_⟩
 ·rw [HSE.out,HBE.out,HCE.out,HLF.out]
  exact Kd.R_mono (Kd.amz (Kd.aQq (Kd.aQq (Kd.aiq HOF (aaz HW5.out HW10.out).size) (p:=⟨g9,0,none⟩) (fun k hk=>hk.2) _) (p:=⟨g9,1,none⟩) (fun k hk=>hk.2) _)) (fun _ _=>trivial)
 ·exact aez (adq (adq (aaz HW5.out (aaz HW10.out HB.out)) HN9.out.1) HN9.out.1)
theorem results_c3 {P:Program}{fn:Func}{p t u v:Tmp}{ty:TypeId}(h:fn.results=#[.cell p ty,.tmp t,.tmp u,.tmp v])(tmps:Array Value)(w:World)(g:Nat)(tt:TypeId)(cs:Array Value)(d:TypeDesc)
  (hp:tmps.getD p undef=.pointer (some ⟨g,0,none⟩)) (hg:w.heap[g]? = some (.cells cs tt (0,0)))
  (hu:P.underlying ty=some d) (hd:(match d with | .struct _ | .array _ _=>true | _=>false)=true) (hi:(P.info? ty).map (·.size)=some cs.size) :
  (results fn tmps).run P w=.ok (.tuple #[.agg cs,tmps.getD t undef,tmps.getD u undef,tmps.getD v undef]) w:=by
 have hp':tmps[p]?.getD undef=.pointer (some ⟨g,0,none⟩):=by simpa using hp
 simp [results,h,hp',asAddr,run_loadVar_row w g tt ty cs (0,0) d hg hu hd hi]
theorem vn110 : vn 110=[110]:=by rw [aHq 110 (by decide)];rfl
theorem cBlock_110 (S:List Int)(h:S.length=110):bvz ([110]++S) 268435456=(S,[],0):=by
 have e:=vread_vn' 110 S (by decide)
 rw [vn110]at e
 have e1:(aAz ([110]++S) 0 0).2.2=0:=by rw [e]
 have e2:(aAz ([110]++S) 0 0).2.1=1:=by rw [e];rfl
 have e3:(aAz ([110]++S) 0 0).1=110:=by rw [e];rfl
 rw [bvz,if_neg (by decide),if_neg (by rw [e1];decide),if_neg (by rw [e3];decide),if_neg (by rw [e2,e3,List.length_append,h];decide),e2,e3]
 simp [←h]
set_option maxHeartbeats 4000000 in
theorem archive_Split0.calls (A0:Option Addr)(c0:Nat)(prev root sig S:List Int)(w:World)(hS:man0 1 prev root++sig=S)(hp:prev.length=32)(hr:root.length=32)(hs:sig.length=32)(hpb:By prev)(hrb:By root)(hsb:By sig)(hr0:Kd.C (Kd.int .u8) w A0 111 ([110]++S))(hc0:111≤c0) :
  Calls Tryz.prog 27 #[.slice A0 111 c0] w fun e w'=>∃ (A1 A2:Option Addr) (As:Addr) (c1 c2 cs:Nat),e=.returned (.tuple #[.agg #[.int .u64 1,.slice A1 32 c1,.slice none 0 0,.slice A2 32 c2],.slice (some As) 110 cs,.slice none 0 0,.int .i64 0])∧32≤c1∧32≤c2∧110≤cs∧Kd.C (Kd.int .u8) w' A1 32 prev∧Kd.C (Kd.int .u8) w' A2 32 root∧Kd.C (Kd.int .u8) w' (some As) 110 S∧Below w.heap.size w w':=by
 have nM:(man0 1 prev root).length=78:=by rw [aWz];simp [hp,hr]
 have nS:S.length=110:=by rw [←hS,List.length_append,nM,hs]
 have bM:∀ x∈man0 1 prev root,0≤x∧x<256:=by
  rw [aWz]
  intro x hx
  simp only [List.mem_append,List.append_nil]at hx
  rcases hx with h|h|h|h|h|h
  ·simp at h;omega
  ·simp at h;omega
  ·exact hpb x h
  ·simp at h;omega
  ·simp at h;omega
  ·exact hrb x h
 have bS:∀ x∈S,0≤x∧x<256:=by
  rw [←hS]
  intro x hx
  rcases List.mem_append.1 hx with h|h
  ·exact bM x h
  ·exact hsb x h
 have HGD:=Qz.k (show a6z ([110]++S)from⟨fun x hx=>by
  rcases List.mem_append.1 hx with h|h
  ·simp at h;omega
  ·exact bS x h,by rw [List.length_append,nS];decide⟩)
 have HBK:=Qz.k (cBlock_110 S nS)
 have NS:=Qz.k nS
 have HM78:=Qz.k nM
 have HTK:=Qz.k (show S.take 78=man0 1 prev root from by rw [←hS,←nM,List.take_left])
 have HDC:=Qz.k (fun(W:World) (A:Option Addr) (h:Kd.C (Kd.int .u8) W A 78 (man0 1 prev root))=>manifest_Decode0.calls A 78 prev root W hp hr hpb hrb h (Nat.le_refl _))
 have HRL:=Qz.k hr
 have HR:=Qz.k hr0
 have HC:=Qz.k hc0
 have nL:=Qz.k (show([110]++S).length=111 from by rw [List.length_append,nS];rfl)
 obtain⟨L,hL⟩:∃ L,[110]++S=L:=⟨_,rfl⟩
 rw [hL]at HR HGD nL HBK
 have hmf:∀ (fn:Fn) (first cap:Array Value) (w:World),(Instr.makeFunc fn first cap).run Tryz.prog w=.ok (.func fn first cap) w:=fun _ _ _ _=>rfl
 clear hL hS hp hr hs hpb hrb hsb hr0 hc0 nM nS bM bS
 go_enter Tryz.func27,Tryz.ntmps27
 go_wp2_with (fail)
 have hb0:=aaq (Below.refl w.heap.size w) (.cells #[.int .u64 0,.slice none 0 0,.slice none 0 0,.slice none 0 0] 65)
 obtain⟨W2,hW2⟩:∃ W_,w.alloc (.cells #[.int .u64 0,.slice none 0 0,.slice none 0 0,.slice none 0 0] 65)=W_:=⟨_,rfl⟩
 have HQ2:=Qz.k (show W2.heap[w.heap.size]? = some (.cells #[.int .u64 0,.slice none 0 0,.slice none 0 0,.slice none 0 0] 65 (0,0))from by rw [←hW2];exact akz w _)
 rw [hW2]at hb0
 rw [hW2]
 have HB:=Qz.k hb0
 clear hb0 hW2
 have hnew:=cursor_New.calls A0 c0 L L w W2 HB.out (by rw [nL.out];exact Kd.acz HR.out HB.out) (by rw [nL.out];exact HC.out) (by rw [cursor_New.f,if_pos HGD.out])
 rw [nL.out]at hnew
 refine hnew.mono ?_
 rintro e W3 ⟨gc,rfl,hi,hb,hbb⟩
 have HI:=Qz.k hi
 replace HB:=Qz.k hb
 have HNC:=Qz.k (show w.heap.size≠gc from fun e=>by
   obtain⟨u,hg,_,_⟩:=hi
   rw [←e,agz HQ2.out hbb]at hg
   injection hg with hg
   injection hg with _ hg _
   exact absurd hg (by decide))
 replace HQ2:=Qz.k (agz HQ2.out hbb)
 clear hi hb hbb hnew
 go_wp2_with (fail)
 refine(cursor_Cursor_Block.calls gc L 268435456 S 0 [] w W3 HI.out HB.out (by rw [cursor_Cursor_Block.f,if_pos ⟨HGD.out,by decide⟩,HBK.out])).mono ?_
 rintro e W4 ⟨v4,rfl,ho,hi,hb,hk⟩
 obtain⟨As,cs,e4⟩:=Kd.a0k ho (by rw [NS.out];decide)
 rw [NS.out]at e4
 subst e4
 replace HI:=Qz.k hi
 replace HB:=Qz.k hb
 replace HQ2:=Qz.k (aFk HQ2.out hk HNC.out)
 have HSC:=Qz.k (show 110≤cs∧Kd.C (Kd.int .u8) W4 (some As) 110 S from⟨(Kd.ack ho).2.1,NS.out ▸ (Kd.ack ho).2.2⟩)
 clear ho hi hb hk
 have k1:(78:Int)≤(cs:Int):=by have:=HSC.out.1;omega
 have k2:78≤cs:=by have:=HSC.out.1;omega
 go_wp2_with (fail)
 have hcut:Kd.C (Kd.int .u8) W4 (some As) 78 (man0 1 prev root):=by
  have h1:=Kd.C_take (m:=78) (k:=Kd.int .u8) (w:=W4) (A:=some As) (xs:=S) (by rw [NS.out];exact HSC.out.2) (by rw [NS.out];decide)
  rw [HTK.out,HM78.out]at h1
  exact h1
 refine(HDC.out W4 (some As) hcut).mono ?_
 rintro e W5 ⟨A1,A2,c1,c2,rfl,h1,h2,hA1,hA2,hb⟩
 have HD:=Qz.k (show 32≤c1∧32≤c2∧Kd.C (Kd.int .u8) W5 A1 32 prev∧Kd.C (Kd.int .u8) W5 A2 32 root∧Kd.C (Kd.int .u8) W5 (some As) 110 S from⟨h1,h2,hA1,hA2,Kd.acz HSC.out.2 hb⟩)
 replace HI:=Qz.k (HI.out.below hb)
 replace HB:=Qz.k (aaz HB.out hb)
 replace HQ2:=Qz.k (agz HQ2.out hb)
 clear hcut hb h1 h2 hA1 hA2 HDC HR HGD HBK
 have hb6:=aaq (Below.refl W5.heap.size W5) (.cells #[.int .u64 1,.slice A1 32 c1,.slice none 0 0,.slice A2 32 c2] 65)
 have hx2:(W5.alloc (.cells #[.int .u64 1,.slice A1 32 c1,.slice none 0 0,.slice A2 32 c2] 65)).cell? ⟨W5.heap.size,2,none⟩=some (.slice none 0 0):=(aak (akz W5 _) 2).trans rfl
 go_wp2
 refine wp_loop_rounds 1 ?_
 rw [rounds_succ]
 go_wp2_with (fail)
 clear hx2
 obtain⟨g6,hg6⟩:∃ g_,W5.heap.size=g_:=⟨_,rfl⟩
 obtain⟨W6,hW6⟩:∃ W_,W5.alloc (.cells #[.int .u64 1,.slice A1 32 c1,.slice none 0 0,.slice A2 32 c2] 65)=W_:=⟨_,rfl⟩
 have HT6:=Qz.k (show W6.heap[g6]? = some (.cells #[.int .u64 1,.slice A1 32 c1,.slice none 0 0,.slice A2 32 c2] 65 (0,0))from by rw [←hW6,←hg6];exact akz W5 _)
 have HNE:=Qz.k (show w.heap.size≠g6 from by have:=aQk HQ2.out;omega)
 rw [hW6]at hb6
 rw [hW6,hg6]
 replace HI:=Qz.k (HI.out.below hb6)
 refine(End_any w W6 gc [] HI.out).mono ?_
 rintro e W7 ⟨rfl,hd⟩
 obtain⟨nd,hnd⟩:=hd.out
 have hb7:Below W6.heap.size W6 W7:=by rw [hnd];exact adz (Below.refl _ _) nd
 have hb57:=aaz hb6 hb7
 replace HT6:=Qz.k (agz HT6.out hb7)
 replace HQ2:=Qz.k (agz HQ2.out hb57)
 replace HB:=Qz.k (aaz HB.out hb57)
 replace HD:=Qz.k (show 32≤c1∧32≤c2∧Kd.C (Kd.int .u8) W7 A1 32 prev∧Kd.C (Kd.int .u8) W7 A2 32 root∧Kd.C (Kd.int .u8) W7 (some As) 110 S from⟨HD.out.1,HD.out.2.1,Kd.acz HD.out.2.2.1 hb57,Kd.acz HD.out.2.2.2.1 hb57,Kd.acz HD.out.2.2.2.2 hb57⟩)
 clear hd hnd hb6 hb7 hb57 hW6 hg6 HI
 have q0:W7.cell? ⟨g6,0,none⟩=some (.int .u64 1):=(aak HT6.out 0).trans rfl
 have q1:W7.cell? ⟨g6,1,none⟩=some (.slice A1 32 c1):=(aak HT6.out 1).trans rfl
 have q2:W7.cell? ⟨g6,2,none⟩=some (.slice none 0 0):=(aak HT6.out 2).trans rfl
 have q3:W7.cell? ⟨g6,3,none⟩=some (.slice A2 32 c2):=(aak HT6.out 3).trans rfl
 have p0:W7.cell? ⟨w.heap.size,0,none⟩=some (.int .u64 0):=(aak HQ2.out 0).trans rfl
 have p1:W7.cell? ⟨w.heap.size,1,none⟩=some (.slice none 0 0):=(aak HQ2.out 1).trans rfl
 have p2:W7.cell? ⟨w.heap.size,2,none⟩=some (.slice none 0 0):=(aak HQ2.out 2).trans rfl
 have p3:W7.cell? ⟨w.heap.size,3,none⟩=some (.slice none 0 0):=(aak HQ2.out 3).trans rfl
 have y0:=afk HQ2.out 0
 have y1:=afk HQ2.out 1
 have y2:=afk HQ2.out 2
 have y3:=afk HQ2.out 3
 have hn1:¬ w.heap.size=g6:=HNE.out
 have hn2:¬ g6=w.heap.size:=fun e=>HNE.out e.symm
 go_wp2
 obtain⟨V0,hV0⟩:∃ W_,W7.setCell ⟨w.heap.size,0,none⟩ (.int .u64 1)=W_:=⟨_,rfl⟩
 rw [hV0]
 replace HB:=Qz.k (show Below w.heap.size w V0 from by rw [←hV0];exact adq HB.out (Nat.le_refl _))
 have hs_:∀ (A:Option Addr) (n:Nat) (xs:List Int),Kd.C (Kd.int .u8) W7 A n xs→Kd.C (Kd.int .u8) V0 A n xs:=fun A n xs h=>by rw [←hV0];exact aJk h _ ((aak HQ2.out 0).trans rfl) (fun x hx=>by cases hx)
 replace HD:=Qz.k (show 32≤c1∧32≤c2∧Kd.C (Kd.int .u8) V0 A1 32 prev∧Kd.C (Kd.int .u8) V0 A2 32 root∧Kd.C (Kd.int .u8) V0 (some As) 110 S from⟨HD.out.1,HD.out.2.1,hs_ _ _ _ HD.out.2.2.1,hs_ _ _ _ HD.out.2.2.2.1,hs_ _ _ _ HD.out.2.2.2.2⟩)
 replace HQ2:=Qz.k (show V0.heap[w.heap.size]? = some (.cells #[.int .u64 1,.slice none 0 0,.slice none 0 0,.slice none 0 0] 65 (0,0))from by rw [←hV0];exact anq HQ2.out 0 _ rfl)
 clear hV0 hs_
 obtain⟨V1,hV1⟩:∃ W_,V0.setCell ⟨w.heap.size,1,none⟩ (.slice A1 32 c1)=W_:=⟨_,rfl⟩
 rw [hV1]
 replace HB:=Qz.k (show Below w.heap.size w V1 from by rw [←hV1];exact adq HB.out (Nat.le_refl _))
 have hs_:∀ (A:Option Addr) (n:Nat) (xs:List Int),Kd.C (Kd.int .u8) V0 A n xs→Kd.C (Kd.int .u8) V1 A n xs:=fun A n xs h=>by rw [←hV1];exact aJk h _ ((aak HQ2.out 1).trans rfl) (fun x hx=>by cases hx)
 replace HD:=Qz.k (show 32≤c1∧32≤c2∧Kd.C (Kd.int .u8) V1 A1 32 prev∧Kd.C (Kd.int .u8) V1 A2 32 root∧Kd.C (Kd.int .u8) V1 (some As) 110 S from⟨HD.out.1,HD.out.2.1,hs_ _ _ _ HD.out.2.2.1,hs_ _ _ _ HD.out.2.2.2.1,hs_ _ _ _ HD.out.2.2.2.2⟩)
 replace HQ2:=Qz.k (show V1.heap[w.heap.size]? = some (.cells #[.int .u64 1,.slice A1 32 c1,.slice none 0 0,.slice none 0 0] 65 (0,0))from by rw [←hV1];exact anq HQ2.out 1 _ rfl)
 clear hV1 hs_
 obtain⟨V2,hV2⟩:∃ W_,V1.setCell ⟨w.heap.size,2,none⟩ (.slice none 0 0)=W_:=⟨_,rfl⟩
 rw [hV2]
 replace HB:=Qz.k (show Below w.heap.size w V2 from by rw [←hV2];exact adq HB.out (Nat.le_refl _))
 have hs_:∀ (A:Option Addr) (n:Nat) (xs:List Int),Kd.C (Kd.int .u8) V1 A n xs→Kd.C (Kd.int .u8) V2 A n xs:=fun A n xs h=>by rw [←hV2];exact aJk h _ ((aak HQ2.out 2).trans rfl) (fun x hx=>by cases hx)
 replace HD:=Qz.k (show 32≤c1∧32≤c2∧Kd.C (Kd.int .u8) V2 A1 32 prev∧Kd.C (Kd.int .u8) V2 A2 32 root∧Kd.C (Kd.int .u8) V2 (some As) 110 S from⟨HD.out.1,HD.out.2.1,hs_ _ _ _ HD.out.2.2.1,hs_ _ _ _ HD.out.2.2.2.1,hs_ _ _ _ HD.out.2.2.2.2⟩)
 replace HQ2:=Qz.k (show V2.heap[w.heap.size]? = some (.cells #[.int .u64 1,.slice A1 32 c1,.slice none 0 0,.slice none 0 0] 65 (0,0))from by rw [←hV2];exact anq HQ2.out 2 _ rfl)
 clear hV2 hs_
 obtain⟨V3,hV3⟩:∃ W_,V2.setCell ⟨w.heap.size,3,none⟩ (.slice A2 32 c2)=W_:=⟨_,rfl⟩
 rw [hV3]
 replace HB:=Qz.k (show Below w.heap.size w V3 from by rw [←hV3];exact adq HB.out (Nat.le_refl _))
 have hs_:∀ (A:Option Addr) (n:Nat) (xs:List Int),Kd.C (Kd.int .u8) V2 A n xs→Kd.C (Kd.int .u8) V3 A n xs:=fun A n xs h=>by rw [←hV3];exact aJk h _ ((aak HQ2.out 3).trans rfl) (fun x hx=>by cases hx)
 replace HD:=Qz.k (show 32≤c1∧32≤c2∧Kd.C (Kd.int .u8) V3 A1 32 prev∧Kd.C (Kd.int .u8) V3 A2 32 root∧Kd.C (Kd.int .u8) V3 (some As) 110 S from⟨HD.out.1,HD.out.2.1,hs_ _ _ _ HD.out.2.2.1,hs_ _ _ _ HD.out.2.2.2.1,hs_ _ _ _ HD.out.2.2.2.2⟩)
 replace HQ2:=Qz.k (show V3.heap[w.heap.size]? = some (.cells #[.int .u64 1,.slice A1 32 c1,.slice none 0 0,.slice A2 32 c2] 65 (0,0))from by rw [←hV3];exact anq HQ2.out 3 _ rfl)
 clear hV3 hs_
 refine bodyPost_ret (results_c3 rfl _ _ w.heap.size 65 #[.int .u64 1,.slice A1 32 c1,.slice none 0 0,.slice A2 32 c2] _ rfl HQ2.out Tryz.underlying65 rfl (by kernel_rfl)) rfl ?_
 exact⟨A1,A2,As,c1,c2,cs,rfl,HD.out.1,HD.out.2.1,HSC.out.1,HD.out.2.2.1,HD.out.2.2.2.1,HD.out.2.2.2.2,HB.out⟩
theorem xor_self_u8 (a:Int):Go.bits .xor .u8 a a=0:=by
 show IntKind.u8.wrap ((BitVec.ofInt 8 a ^^^ BitVec.ofInt 8 a).toNat:Int)=0
 rw [BitVec.xor_self]
 rfl
theorem or_zero_u8 : Go.bits .or .u8 0 0=0:=by decide
theorem same_loop (l:List Int)(hl:l.length<140737488355328)(d:Nat):∀ i:Nat,i+d=l.length→Evn (fun k=>hmac_Same.l0 k l l 0 (l.length:Int) (i:Int)) true:=by
 induction d with
 |zero=>
  intro i hi
  refine Evn.succ (Evn.pure _) fun k=>?_
  rw [hmac_Same.l0,if_neg (by omega)]
  rfl
 |succ d ih=>
  intro i hi
  refine Evn.round ?_
  simp only [hmac_Same.l0]
  refine Evn.pos (by omega) (Evn.pos (by omega) (Evn.pos (by omega) (Evn.pos (by omega) ?_)))
  rw [xor_self_u8,or_zero_u8,show wrap64 ((i:Int)+1)=((i+1:Nat):Int)from by rw [agq (by omega) (by omega)];omega]
  exact ih (i+1) (by omega)
theorem Same_ev (l:List Int)(hl:l.length<140737488355328):Evn (fun k=>hmac_Same.f k l l) true:=by
 simp only [hmac_Same.f]
 exact Evn.pos trivial (same_loop l hl l.length 0 (by omega))
theorem bWk (A0 A1:Option Addr)(c0 c1:Nat)(l:List Int)(w:World)(hl:l.length<1048576)(hr0:Kd.C (Kd.int .u8) w A0 l.length l)(hc0:l.length≤c0)(hr1:Kd.C (Kd.int .u8) w A1 l.length l)(hc1:l.length≤c1) :
  Calls Tryz.prog 30 #[.slice A0 l.length c0,.slice A1 l.length c1] w fun e w'=>e=.returned (.bool true)∧Below w.heap.size w w':=by
 obtain⟨k,hk⟩:=(Same_ev l (by omega)).get
 refine(hmac_Same.calls k A0 c0 l A1 c1 l true w hr0 hc0 hr1 hc1 hk).mono ?_
 rintro e w' ⟨rfl,hd⟩
 obtain⟨n,hn⟩:=hd.out
 refine⟨rfl,?_⟩
 rw [hn]
 exact adz (Below.refl _ _) n
set_option maxHeartbeats 1000000 in
theorem hmac_Check.calls (A0:Option Addr)(c0:Nat)(key:List Int)(A1:Option Addr)(c1:Nat)(l1:List Int)(A2:Option Addr)(c2:Nat)(w:World)(hr0:Kd.C (Kd.int .u8) w A0 key.length key)(hc0:key.length≤c0)(hk:key.length=32)(hr1:Kd.C (Kd.int .u8) w A1 l1.length l1)(hc1:l1.length≤c1)(hl:l1.length<1099511627776)
  (hr2:Kd.C (Kd.int .u8) w A2 32 (aDz key [l1])) (hc2:32≤c2) :
  Calls Tryz.prog 61 #[.slice A0 key.length c0,.slice A1 l1.length c1,.slice A2 32 c2] w fun e w'=>e=.returned (.bool true)∧Below w.heap.size w w':=by
 have HM:=Qz.k (hmac_MAC.calls A0 c0 key A1 c1 l1 w hr0 hc0 hk hr1 hc1 hl)
 have HR2:=Qz.k hr2
 have HC2:=Qz.k hc2
 have nT:=Qz.k (aGq key [l1])
 generalize aDz key [l1]=T at *
 clear hr0 hc0 hk hr1 hc1 hl hr2 hc2
 go_enter Tryz.func61,Tryz.ntmps61
 go_wp2_with (fail)
 refine HM.out.mono ?_
 rintro e W1 ⟨v1,rfl,ho,hb⟩
 obtain⟨A3,c3,e3⟩:=Kd.afz ho
 subst e3
 have HO:=Qz.k (Kd.ack ho).2
 have HB:=Qz.k hb
 clear ho hb HM
 go_wp2_with (fail)
 have h2:=bWk A3 A2 c3 c2 T W1 (by rw [nT.out];decide) HO.out.2 HO.out.1 (by rw [nT.out];exact Kd.acz HR2.out HB.out) (by rw [nT.out];exact HC2.out)
 rw [nT.out]at h2
 rw [nT.out]
 refine h2.mono ?_
 rintro e W2 ⟨rfl,hb⟩
 have HB2:=Qz.k (aaz HB.out hb)
 clear hb h2
 go_wp2
 go_ret
 exact⟨rfl,HB2.out⟩
theorem results_c1 {P:Program}{fn:Func}{p t:Tmp}{ty:TypeId}(h:fn.results=#[.cell p ty,.tmp t])(tmps:Array Value)(w:World)(g:Nat)(tt:TypeId)(cs:Array Value)(d:TypeDesc)
  (hp:tmps.getD p undef=.pointer (some ⟨g,0,none⟩)) (hg:w.heap[g]? = some (.cells cs tt (0,0)))
  (hu:P.underlying ty=some d) (hd:(match d with | .struct _ | .array _ _=>true | _=>false)=true) (hi:(P.info? ty).map (·.size)=some cs.size) :
  (results fn tmps).run P w=.ok (.tuple #[.agg cs,tmps.getD t undef]) w:=by
 have hp':tmps[p]?.getD undef=.pointer (some ⟨g,0,none⟩):=by simpa using hp
 simp [results,h,hp',asAddr,run_loadVar_row w g tt ty cs (0,0) d hg hu hd hi]
set_option maxHeartbeats 4000000 in
theorem manifest_Check0.calls (A0:Option Addr)(c0:Nat)(key:List Int)(As:Addr)(cs:Nat)(prev root S:List Int)(w:World)(hr0:Kd.C (Kd.int .u8) w A0 key.length key)(hc0:key.length≤c0)(hk:key.length=32)(hp:prev.length=32)(hr:root.length=32)(hpb:By prev)(hrb:By root)
  (hS:man0 1 prev root++aDz (derived key 4 aEz) [man0 1 prev root]=S) (hr1:Kd.C (Kd.int .u8) w (some As) 110 S) (hcs:110≤cs) :
  Calls Tryz.prog 28 #[.slice A0 key.length c0,.slice (some As) 110 cs] w fun e w'=>∃ (A1 A2:Option Addr) (c1 c2:Nat),e=.returned (.tuple #[.agg #[.int .u64 1,.slice A1 32 c1,.slice none 0 0,.slice A2 32 c2],.int .i64 0])∧Below w.heap.size w w':=by
 have nM:(man0 1 prev root).length=78:=by rw [aWz];simp [hp,hr]
 have HMK:=Qz.k (fun(W:World) (h:Below w.heap.size w W)=>keys_Manifest.calls A0 c0 key W (Kd.acz hr0 h) hc0 hk)
 have nD:=Qz.k (aXq key 4 aEz)
 generalize derived key 4 aEz=D at *
 have HDC:=Qz.k (fun(W:World) (A:Option Addr) (c:Nat) (hc:78≤c) (h:Kd.C (Kd.int .u8) W A 78 (man0 1 prev root))=>manifest_Decode0.calls A c prev root W hp hr hpb hrb h hc)
 have nT:=aGq D [man0 1 prev root]
 have nS:S.length=110:=by rw [←hS,List.length_append,nM,nT]
 have eT:S.take 78=man0 1 prev root:=by rw [←hS,←nM,List.take_left]
 have eD:S.drop 78=aDz D [man0 1 prev root]:=by rw [←hS,←nM,List.drop_left]
 have HCK:=Qz.k (fun(W:World) (A3:Option Addr) (c3:Nat) (hr:Kd.C (Kd.int .u8) W A3 D.length D) (hc:D.length≤c3) (h1:Kd.C (Kd.int .u8) W (some As) 78 (man0 1 prev root)) (A5:Option Addr) (c5:Nat) (h2:Kd.C (Kd.int .u8) W A5 32 (aDz D [man0 1 prev root])) (hc2:32≤c5)=>hmac_Check.calls A3 c3 D (some As) cs (man0 1 prev root) A5 c5 W hr hc nD.out (by rw [nM];exact h1) (by rw [nM];omega) (by rw [nM];decide) h2 hc2)
 rw [nM]at HCK
 have HCT:=Qz.k (fun(W:World) (h:Kd.C (Kd.int .u8) W (some As) 110 S)=>(show Kd.C (Kd.int .u8) W (some As) 78 (man0 1 prev root)from by
  have h1:=Kd.C_take (m:=78) (k:=Kd.int .u8) (w:=W) (A:=some As) (xs:=S) (by rw [nS];exact h) (by rw [nS];decide)
  rw [eT,nM]at h1
  exact h1))
 have HCD:=Qz.k (fun(W:World) (h:Kd.C (Kd.int .u8) W (some As) 110 S)=>(show Kd.C (Kd.int .u8) W (some (As.add 78)) 32 (aDz D [man0 1 prev root])from by
  have h1:=Kd.bTz (m:=78) (c:=cs) (k:=Kd.int .u8) (w:=W) (A:=some As) (xs:=S) (by rw [nS];exact h) (by rw [nS];decide) (by rw [nS];exact hcs)
  rw [eD,nT,if_neg (by omega)]at h1
  exact h1))
 generalize aDz D [man0 1 prev root]=T at *
 generalize man0 1 prev root=M at *
 have HR1:=Qz.k hr1
 have HCS:=Qz.k hcs
 have k1:(78:Int)≤(cs:Int):=by omega
 have k2:78≤cs:=by omega
 have k3:(110:Int)≤(cs:Int):=by omega
 have k4:¬ cs=78:=by omega
 clear nM nT nS eT eD hS hr0 hc0 hk hp hr hpb hrb hr1
 go_enter Tryz.func28,Tryz.ntmps28
 go_wp2_with (fail)
 have hb0:=aaq (Below.refl w.heap.size w) (.cells #[.int .u64 0,.slice none 0 0,.slice none 0 0,.slice none 0 0] 65)
 obtain⟨W2,hW2⟩:∃ W_,w.alloc (.cells #[.int .u64 0,.slice none 0 0,.slice none 0 0,.slice none 0 0] 65)=W_:=⟨_,rfl⟩
 have HQ2:=Qz.k (show W2.heap[w.heap.size]? = some (.cells #[.int .u64 0,.slice none 0 0,.slice none 0 0,.slice none 0 0] 65 (0,0))from by rw [←hW2];exact akz w _)
 rw [hW2]at hb0
 rw [hW2]
 have HB:=Qz.k hb0
 clear hb0 hW2
 refine(HMK.out _ HB.out).mono ?_
 rintro e W3 ⟨v3,rfl,ho,hb⟩
 obtain⟨A3,c3,e3⟩:=Kd.afz ho
 subst e3
 have HD:=Qz.k (Kd.ack ho).2
 replace HQ2:=Qz.k (agz HQ2.out hb)
 replace HB:=Qz.k (aaz HB.out hb)
 clear ho hb HMK
 go_upto_region 7 with(fail)
 refine axq (n:=10) (S:=fun w'=>True) (ds:=[]) (bl 10 0) (by kernel_rfl) rfl rfl (trivial) (fun hHeld=>?_)
 refine pu_ 0 27 ?_ ?_ (bl 10 1) rfl rfl (by kernel_rfl) ?_ ?_ ?_
 rotate_left 2
 ·intro w';go_simp;with_reducible rfl
 ·simp only [Act.put,putA,putZ,putS,abq,abk];rfl
 refine pu_ 1 28 ?_ ?_ (bl 10 3) rfl rfl (by kernel_rfl) ?_ ?_ ?_
 rotate_left 2
 ·intro w';go_simp;with_reducible rfl
 ·simp only [Act.put,putA,putZ,putS,abq,abk];rfl
 refine pu_ 2 29 ?_ ?_ (bl 10 7) rfl rfl (by kernel_rfl) ?_ ?_ ?_
 rotate_left 2
 ·intro w';go_simp;with_reducible rfl
 ·simp only [Act.put,putA,putZ,putS,abq,abk];rfl
 refine pu_ 3 30 ?_ ?_ (bl 10 15) rfl rfl (by kernel_rfl) ?_ ?_ ?_
 rotate_left 2
 ·intro w';go_simp;with_reducible rfl
 ·simp only [Act.put,putA,putZ,putS,abq,abk];rfl
 refine pu_ 4 31 ?_ ?_ (bl 10 31) rfl rfl (by kernel_rfl) ?_ ?_ ?_
 rotate_left 2
 ·intro w';go_simp;with_reducible rfl
 ·simp only [Act.put,putA,putZ,putS,abq,abk];rfl
 refine pu_ 5 32 ?_ ?_ (bl 10 63) rfl rfl (by kernel_rfl) ?_ ?_ ?_
 rotate_left 2
 ·intro w';go_simp;with_reducible rfl
 ·simp only [Act.put,putA,putZ,putS,abq,abk];rfl
 refine pu_ 6 33 ?_ ?_ (bl 10 127) rfl rfl (by kernel_rfl) ?_ ?_ ?_
 rotate_left 2
 ·intro w';go_simp;with_reducible rfl
 ·simp only [Act.put,putA,putZ,putS,abq,abk];rfl
 refine one_ (i:=7) (N:=some 34) (bl 10 255) rfl rfl (by kernel_rfl) (by decide) (fun K hK=>?_)
 refine aFq Tryz.func61 (by kernel_rfl) rfl #[.slice A3 D.length c3,.slice (some As) 78 cs,.slice (some (As.add 78)) 32 (cs-78)] (by rfl) rfl rfl (by simp only [List.map_toArray,List.map_cons,List.map_nil];first|done|rfl) ?_
 with_reducible refine(HCK.out _ A3 c3 (Kd.atq HD.out.2) HD.out.1 (HCT.out _ (Kd.atq (Kd.acz HR1.out HB.out))) (some (As.add 78)) (cs-78) (HCD.out _ (Kd.atq (Kd.acz HR1.out HB.out))) (by have:=HCS.out;omega)).mono ?_
 rintro e w3 ⟨rfl,hb⟩
 refine⟨_,rfl,?_⟩
 have HB4:=Qz.k (aaz (aez HB.out) hb)
 have HQ4:=Qz.k (agz (aoz HQ2.out) hb)
 clear hb
 refine hK.out _ _ (trivial) (fun hHeld=>?_)
 clear hK K
 refine aHz (a':=?_) ?_ ?_
 rotate_left
 ·show Act.put _ (some 34) _=_
  simp only [Act.put,putA,putZ,putS,abq,abk]
  rfl
 refine pu_ 8 35 ?_ ?_ (bl 10 511) rfl rfl (by kernel_rfl) ?_ ?_ ?_
 rotate_left 2
 ·intro w';go_simp;with_reducible rfl
 ·simp only [Act.put,putA,putZ,putS,abq,abk];rfl
 refine pu_ 9 26 ?_ ?_ (bl 10 1023) rfl rfl (by kernel_rfl) ?_ ?_ ?_
 rotate_left 2
 ·intro w';go_simp;with_reducible rfl
 ·simp only [Act.put,putA,putZ,putS,abq,abk];rfl
 refine aPz (by kernel_rfl) ?_
 go_wp2_with (fail)
 refine(HDC.out w3 (some As) cs (by have:=HCS.out;omega) (HCT.out _ (Kd.acz HR1.out HB4.out))).mono ?_
 rintro e W5 ⟨A1,A2,c1,c2,rfl,h1,h2,hA1,hA2,hb⟩
 have HB5:=Qz.k (aaz HB4.out hb)
 have HQ5:=Qz.k (agz HQ4.out hb)
 clear hb h1 h2 hA1 hA2
 have p0:W5.cell? ⟨w.heap.size,0,none⟩=some (.int .u64 0):=(aak HQ5.out 0).trans rfl
 have y0:=afk HQ5.out 0
 have p1:W5.cell? ⟨w.heap.size,1,none⟩=some (.slice none 0 0):=(aak HQ5.out 1).trans rfl
 have y1:=afk HQ5.out 1
 have p2:W5.cell? ⟨w.heap.size,2,none⟩=some (.slice none 0 0):=(aak HQ5.out 2).trans rfl
 have y2:=afk HQ5.out 2
 have p3:W5.cell? ⟨w.heap.size,3,none⟩=some (.slice none 0 0):=(aak HQ5.out 3).trans rfl
 have y3:=afk HQ5.out 3
 go_wp2
 obtain⟨V0,hV0⟩:∃ W_,W5.setCell ⟨w.heap.size,0,none⟩ (.int .u64 1)=W_:=⟨_,rfl⟩
 rw [hV0]
 replace HB5:=Qz.k (show Below w.heap.size w V0 from by rw [←hV0];exact adq HB5.out (Nat.le_refl _))
 replace HQ5:=Qz.k (show V0.heap[w.heap.size]? = some (.cells #[.int .u64 1,.slice none 0 0,.slice none 0 0,.slice none 0 0] 65 (0,0))from by rw [←hV0];exact anq HQ5.out 0 _ rfl)
 clear hV0
 obtain⟨V1,hV1⟩:∃ W_,V0.setCell ⟨w.heap.size,1,none⟩ (.slice A1 32 c1)=W_:=⟨_,rfl⟩
 rw [hV1]
 replace HB5:=Qz.k (show Below w.heap.size w V1 from by rw [←hV1];exact adq HB5.out (Nat.le_refl _))
 replace HQ5:=Qz.k (show V1.heap[w.heap.size]? = some (.cells #[.int .u64 1,.slice A1 32 c1,.slice none 0 0,.slice none 0 0] 65 (0,0))from by rw [←hV1];exact anq HQ5.out 1 _ rfl)
 clear hV1
 obtain⟨V2,hV2⟩:∃ W_,V1.setCell ⟨w.heap.size,2,none⟩ (.slice none 0 0)=W_:=⟨_,rfl⟩
 rw [hV2]
 replace HB5:=Qz.k (show Below w.heap.size w V2 from by rw [←hV2];exact adq HB5.out (Nat.le_refl _))
 replace HQ5:=Qz.k (show V2.heap[w.heap.size]? = some (.cells #[.int .u64 1,.slice A1 32 c1,.slice none 0 0,.slice none 0 0] 65 (0,0))from by rw [←hV2];exact anq HQ5.out 2 _ rfl)
 clear hV2
 obtain⟨V3,hV3⟩:∃ W_,V2.setCell ⟨w.heap.size,3,none⟩ (.slice A2 32 c2)=W_:=⟨_,rfl⟩
 rw [hV3]
 replace HB5:=Qz.k (show Below w.heap.size w V3 from by rw [←hV3];exact adq HB5.out (Nat.le_refl _))
 replace HQ5:=Qz.k (show V3.heap[w.heap.size]? = some (.cells #[.int .u64 1,.slice A1 32 c1,.slice none 0 0,.slice A2 32 c2] 65 (0,0))from by rw [←hV3];exact anq HQ5.out 3 _ rfl)
 clear hV3
 refine bodyPost_ret (results_c1 rfl _ _ w.heap.size 65 #[.int .u64 1,.slice A1 32 c1,.slice none 0 0,.slice A2 32 c2] _ rfl HQ5.out Tryz.underlying65 rfl (by kernel_rfl)) rfl ?_
 exact⟨A1,A2,c1,c2,rfl,HB5.out⟩
theorem stale_ev (prev T:List Int)(hT:T.length=32):Evn (fun k=>archive_stale.f k 1 prev [] T 1 T) 0:=by
 simp only [archive_stale.f]
 refine Evn.bik (a:=true) (by rw [archive_trusts.f,hT];rfl) ?_
 refine Evn.pos rfl (Evn.round ?_)
 simp only [archive_stale.j0]
 refine Evn.neg (by decide) (Evn.neg (by decide) (Evn.bind (Same_ev T (by omega)) (Evn.pos rfl (Evn.pure _))))
theorem rootOf0 (w:World)(A:Option Addr)(c:Nat):Calls Tryz.prog 23 #[.slice A 0 c] w fun e w'=>∃ (A':Option Addr) (c':Nat),e=.returned (.slice A' 32 c')∧32≤c'∧Kd.C (Kd.int .u8) w' A' 32 (bCk [])∧Below w.heap.size w w':=
 archive_rootOf (bCk []) A c [] w ⟨rfl,by decide,fun h=>absurd h (by decide)⟩ (by decide) (fun b hb=>by cases hb) (fun w1 A1 c1 _ _ _=>merkle_Root0.calls A1 c1 w1)
set_option maxHeartbeats 4000000 in
theorem archive_Open0.calls (A0:Option Addr)(c0:Nat)(key:List Int)(A9:Option Addr)(c9:Nat)(A2:Option Addr)(c2:Nat)(prev T S:List Int)(w:World)(hr0:Kd.C (Kd.int .u8) w A0 key.length key)(hc0:key.length≤c0)(hk:key.length=32)(hp:prev.length=32)(hpb:By prev)(hT:T=bCk [])(hTb:By T)
  (hS:man0 1 prev T++aDz (derived key 4 aEz) [man0 1 prev T]=S) (hr9:Kd.C (Kd.int .u8) w A9 32 T) (hc9:32≤c9) (hr2:Kd.C (Kd.int .u8) w A2 111 ([110]++S)) (hc2:111≤c2) :
  Calls Tryz.prog 10 #[.slice A0 key.length c0,.agg #[.int .u64 1,.slice A9 32 c9],.slice A2 111 c2] w fun e w'=>∃ (Ar:Option Addr) (cr:Nat),e=.returned (.tuple #[.slice none 0 0,.agg #[.int .u64 1,.slice Ar 32 cr],.int .i64 0])∧Below w.heap.size w w':=by
 have nT:T.length=32:=by rw [hT];exact bqz []
 have HSP:=Qz.k (fun(W:World) (h:Below w.heap.size w W)=>archive_Split0.calls A2 c2 prev T (aDz (derived key 4 aEz) [man0 1 prev T]) S W hS hp nT (aGq _ _) hpb hTb (hmacOf_by _ _) (Kd.acz hr2 h) hc2)
 have HCK:=Qz.k (fun(W:World) (h:Below w.heap.size w W) (As:Addr) (cs:Nat) (h1:Kd.C (Kd.int .u8) W (some As) 110 S) (h2:110≤cs)=>manifest_Check0.calls A0 c0 key As cs prev T S W (Kd.acz hr0 h) hc0 hk hp nT hpb hTb hS h1 h2)
 have HRI:=Qz.k (fun(W:World) (h:Below w.heap.size w W)=>archive_right.calls 1 A9 c9 T true W (by rw [nT];exact Kd.acz hr9 h) (by rw [nT];exact hc9) (by rw [archive_right.f,nT];rfl))
 obtain⟨ks,hks⟩:=(stale_ev prev T nT).get
 have HST:=Qz.k (fun(W:World) (h:Below w.heap.size w W) (A1 A3:Option Addr) (c1 c3:Nat) (h1:Kd.C (Kd.int .u8) W A1 32 prev) (g1:32≤c1) (h3:Kd.C (Kd.int .u8) W A3 32 T) (g3:32≤c3)=>archive_stale.calls ks 1 A1 c1 prev none 0 [] A3 c3 T 1 A9 c9 T 0 W (by rw [hp];exact h1) (by rw [hp];exact g1) (Kd.a7q _ _) (Nat.le_refl 0) (by rw [nT];exact h3) (by rw [nT];exact g3) (by rw [nT];exact Kd.acz hr9 h) (by rw [nT];exact hc9) hks)
 have HRO:=Qz.k (fun(W:World)=>rootOf0 W none 0)
 rw [←hT]at HRO
 rw [nT]at HRI
 rw [hp,nT]at HST
 have HSM:=Qz.k (fun(W:World) (A1 A3:Option Addr) (c1 c3:Nat) (h1:Kd.C (Kd.int .u8) W A1 32 T) (g1:32≤c1) (h3:Kd.C (Kd.int .u8) W A3 32 T) (g3:32≤c3)=>bWk A1 A3 c1 c3 T W (by rw [nT];decide) (by rw [nT];exact h1) (by rw [nT];exact g1) (by rw [nT];exact h3) (by rw [nT];exact g3))
 rw [nT]at HSM
 have e0:(key.length:Int)=32:=by omega
 have e1:((key.length:Int) == 32)=true:=by rw [hk];rfl
 have e2:(key.length == 32)=true:=by rw [hk];rfl
 have e3:decide ((key.length:Int)=32)=true:=by rw [hk];rfl
 have e4:decide (key.length=32)=true:=by rw [hk];rfl
 clear hr0 hc0 hk hp hpb hT hTb hS hr9 hc9 hr2 hc2 hks
 go_enter Tryz.func10,Tryz.ntmps10
 go_wp2_with (fail)
 have hb0:=aaq (aaq (Below.refl w.heap.size w) (.cells #[.int .u64 1,.slice A9 32 c9] 29)) (.cells #[.int .u64 0,.slice none 0 0] 29)
 obtain⟨g7,hg7⟩:∃ g_,w.heap.size+1=g_:=⟨_,rfl⟩
 have HN7:=Qz.k (show w.heap.size≤g7∧w.heap.size≠g7 from by omega)
 obtain⟨W0,hW0⟩:∃ W0,(w.alloc (.cells #[.int .u64 1,.slice A9 32 c9] 29)).alloc (.cells #[.int .u64 0,.slice none 0 0] 29)=W0:=⟨_,rfl⟩
 have HG4:=Qz.k (show W0.heap[w.heap.size]? = some (.cells #[.int .u64 1,.slice A9 32 c9] 29 (0,0))from by rw [←hW0];exact agz (akz w _) (aaq (Below.refl _ _) _))
 have HG7:=Qz.k (show W0.heap[g7]? = some (.cells #[.int .u64 0,.slice none 0 0] 29 (0,0))from by rw [←hW0,←hg7,←World.size_alloc w (.cells #[.int .u64 1,.slice A9 32 c9] 29)];exact akz (w.alloc (.cells #[.int .u64 1,.slice A9 32 c9] 29)) _)
 rw [hW0]at hb0
 rw [hW0,hg7]
 have HB:=Qz.k hb0
 clear hb0 hW0 hg7
 refine(HRI.out _ HB.out).mono ?_
 rintro e W1 ⟨rfl,hb⟩
 replace HG4:=Qz.k (agz HG4.out hb)
 replace HG7:=Qz.k (agz HG7.out hb)
 replace HB:=Qz.k (aaz HB.out hb)
 clear hb HRI
 go_wp2_with (fail)
 refine(HSP.out _ HB.out).mono ?_
 rintro e W2 ⟨A1,A3,As,c1,c3,cs,rfl,h1,h3,hcs,hC1,hC3,hCS,hb⟩
 have HW:=Qz.k (show 32≤c1∧32≤c3∧110≤cs from⟨h1,h3,hcs⟩)
 have HM:=Qz.k (show Kd.C (Kd.int .u8) W2 A1 32 prev∧Kd.C (Kd.int .u8) W2 A3 32 T∧Kd.C (Kd.int .u8) W2 (some As) 110 S from⟨hC1,hC3,hCS⟩)
 replace HG4:=Qz.k (agz HG4.out hb)
 replace HG7:=Qz.k (agz HG7.out hb)
 replace HB:=Qz.k (aaz HB.out hb)
 clear hb h1 h3 hcs hC1 hC3 hCS HSP
 go_wp2_with (fail)
 have hb:=aaq (Below.refl W2.heap.size W2) (.cells #[.int .u64 1,.slice A1 32 c1,.slice none 0 0,.slice A3 32 c3] 65)
 obtain⟨g9,hg9⟩:∃ g_,W2.heap.size=g_:=⟨_,rfl⟩
 obtain⟨W3,hW3⟩:∃ W_,W2.alloc (.cells #[.int .u64 1,.slice A1 32 c1,.slice none 0 0,.slice A3 32 c3] 65)=W_:=⟨_,rfl⟩
 have HG9:=Qz.k (show W3.heap[g9]? = some (.cells #[.int .u64 1,.slice A1 32 c1,.slice none 0 0,.slice A3 32 c3] 65 (0,0))from by rw [←hW3,←hg9];exact akz W2 _)
 rw [hW3]at hb
 rw [hW3,hg9]
 replace HM:=Qz.k (show Kd.C (Kd.int .u8) W3 A1 32 prev∧Kd.C (Kd.int .u8) W3 A3 32 T∧Kd.C (Kd.int .u8) W3 (some As) 110 S from⟨Kd.acz HM.out.1 hb,Kd.acz HM.out.2.1 hb,Kd.acz HM.out.2.2 hb⟩)
 replace HG4:=Qz.k (agz HG4.out hb)
 replace HG7:=Qz.k (agz HG7.out hb)
 replace HB:=Qz.k (aaz HB.out hb)
 clear hb hW3 hg9
 refine(HCK.out _ HB.out As cs HM.out.2.2 HW.out.2.2).mono ?_
 rintro e W4 ⟨Ma,Mc,na,nc,rfl,hb⟩
 replace HM:=Qz.k (show Kd.C (Kd.int .u8) W4 A1 32 prev∧Kd.C (Kd.int .u8) W4 A3 32 T∧Kd.C (Kd.int .u8) W4 (some As) 110 S from⟨Kd.acz HM.out.1 hb,Kd.acz HM.out.2.1 hb,Kd.acz HM.out.2.2 hb⟩)
 replace HG4:=Qz.k (agz HG4.out hb)
 replace HG7:=Qz.k (agz HG7.out hb)
 replace HG9:=Qz.k (agz HG9.out hb)
 replace HB:=Qz.k (aaz HB.out hb)
 clear hb HCK
 have hb:=aaq (Below.refl W4.heap.size W4) (.cells #[.int .u64 1,.slice Ma 32 na,.slice none 0 0,.slice Mc 32 nc] 65)
 have hx0:=abz hb ((aak HG9.out 0).trans (show _=some (Value.int .u64 1)from rfl))
 have hx1:=abz hb ((aak HG9.out 1).trans (show _=some (Value.slice A1 32 c1)from rfl))
 have hx2:=abz hb ((aak HG9.out 2).trans (show _=some (Value.slice none 0 0)from rfl))
 have hx3:=abz hb ((aak HG9.out 3).trans (show _=some (Value.slice A3 32 c3)from rfl))
 have hx4:=abz hb ((aak HG4.out 0).trans (show _=some (Value.int .u64 1)from rfl))
 have hx5:=abz hb ((aak HG4.out 1).trans (show _=some (Value.slice A9 32 c9)from rfl))
 go_wp2_with (fail)
 clear hx0 hx1 hx2 hx3 hx4 hx5
 obtain⟨W5,hW5⟩:∃ W_,W4.alloc (.cells #[.int .u64 1,.slice Ma 32 na,.slice none 0 0,.slice Mc 32 nc] 65)=W_:=⟨_,rfl⟩
 rw [hW5]at hb
 rw [hW5]
 replace HM:=Qz.k (show Kd.C (Kd.int .u8) W5 A1 32 prev∧Kd.C (Kd.int .u8) W5 A3 32 T∧Kd.C (Kd.int .u8) W5 (some As) 110 S from⟨Kd.acz HM.out.1 hb,Kd.acz HM.out.2.1 hb,Kd.acz HM.out.2.2 hb⟩)
 replace HG4:=Qz.k (agz HG4.out hb)
 replace HG7:=Qz.k (agz HG7.out hb)
 replace HG9:=Qz.k (agz HG9.out hb)
 replace HB:=Qz.k (aaz HB.out hb)
 clear hb hW5
 refine(HST.out _ HB.out A1 A3 c1 c3 HM.out.1 HW.out.1 HM.out.2.1 HW.out.2.1).mono ?_
 rintro e W6 ⟨rfl,hb⟩
 replace HM:=Qz.k (show Kd.C (Kd.int .u8) W6 A1 32 prev∧Kd.C (Kd.int .u8) W6 A3 32 T∧Kd.C (Kd.int .u8) W6 (some As) 110 S from⟨Kd.acz HM.out.1 hb,Kd.acz HM.out.2.1 hb,Kd.acz HM.out.2.2 hb⟩)
 replace HG4:=Qz.k (agz HG4.out hb)
 replace HG7:=Qz.k (agz HG7.out hb)
 replace HG9:=Qz.k (agz HG9.out hb)
 replace HB:=Qz.k (aaz HB.out hb)
 clear hb HST
 go_upto_region 12 with(fail)
 have hx3:W6.drew.cell? ⟨g9,3,none⟩=some (.slice A3 32 c3):=(aak (aoz HG9.out) 3).trans rfl
 refine axq (n:=6) (S:=fun w'=>w'.cell? ⟨g9,3,none⟩=some (.slice A3 32 c3)) (ds:=[]) (bl 6 0) (by kernel_rfl) rfl rfl (hx3) (fun hHeld=>?_)
 refine pu_ 0 59 ?_ ?_ (bl 6 1) rfl rfl (by kernel_rfl) ?_ ?_ ?_
 rotate_left 2
 ·intro w';go_simp;with_reducible rfl
 ·simp only [Act.put,putA,putZ,putS,abq,abk];rfl
 refine pu_ 2 61 ?_ ?_ (bl 6 5) rfl rfl (by kernel_rfl) ?_ ?_ ?_
 rotate_left 2
 ·intro w';go_simp;with_reducible rfl
 ·simp only [Act.put,putA,putZ,putS,abq,abk];rfl
 refine tk_ 3 62 ?_ ?_ (bl 6 13) rfl rfl (by kernel_rfl) hHeld ?_ ?_ ?_
 rotate_left 2
 ·intro w' s0;go_simp;with_reducible rfl
 ·simp only [Act.put,putA,putZ,putS,abq,abk];rfl
 refine one_ (i:=1) (N:=some 60) (bl 6 15) rfl rfl (by kernel_rfl) (by decide) (fun K hK=>?_)
 refine aFq Tryz.func23 (by kernel_rfl) rfl #[.slice none 0 0] (by rfl) rfl rfl (by simp only [List.map_toArray,List.map_cons,List.map_nil];first|done|rfl) ?_
 with_reducible refine(HRO.out _).mono ?_
 rintro e w3 ⟨Ar,cr,rfl,hcr,hr,hb⟩
 refine⟨_,rfl,?_⟩
 have HR7:=Qz.k (show 32≤cr∧Kd.C (Kd.int .u8) w3 Ar 32 T from⟨hcr,hr⟩)
 have HM7:=Qz.k (Kd.acz (Kd.atq HM.out.2.1) hb)
 have HB7:=Qz.k (aaz (aez HB.out) hb)
 have HG97:=Qz.k (agz (aoz HG9.out) hb)
 have HG77:=Qz.k (agz (aoz HG7.out) hb)
 clear hr hcr
 refine hK.out _ _ (abz hb hHeld) (fun hHeld=>?_)
 clear hK K
 refine aHz (a':=?_) ?_ ?_
 rotate_left
 ·show Act.put _ (some 60) _=_
  simp only [Act.put,putA,putZ,putS,abq,abk]
  rfl
 refine one_ (i:=4) (N:=some 63) (bl 6 31) rfl rfl (by kernel_rfl) (by decide) (fun K hK=>?_)
 refine aFq Tryz.func30 (by kernel_rfl) rfl #[.slice Ar 32 cr,.slice A3 32 c3] (by rfl) rfl rfl (by simp only [List.map_toArray,List.map_cons,List.map_nil];first|done|rfl) ?_
 with_reducible refine(HSM.out _ Ar A3 cr c3 HR7.out.2 HR7.out.1 HM7.out HW.out.2.1).mono ?_
 rintro e w4 ⟨rfl,hb4⟩
 refine⟨_,rfl,?_⟩
 have HB8:=Qz.k (aaz HB7.out hb4)
 have HG98:=Qz.k (agz HG97.out hb4)
 have HG78:=Qz.k (agz HG77.out hb4)
 refine hK.out _ _ (abz hb4 hHeld) (fun hHeld=>?_)
 clear hK K
 refine aHz (a':=?_) ?_ ?_
 rotate_left
 ·show Act.put _ (some 63) _=_
  simp only [Act.put,putA,putZ,putS,abq,abk]
  rfl
 refine pu_ 5 64 ?_ ?_ (bl 6 63) rfl rfl (by kernel_rfl) ?_ ?_ ?_
 rotate_left 2
 ·intro w';go_simp;with_reducible rfl
 ·simp only [Act.put,putA,putZ,putS,abq,abk];rfl
 refine aPz (by kernel_rfl) ?_
 have hq2:w4.cell? ⟨g9,2,none⟩=some (.slice none 0 0):=(aak HG98.out 2).trans rfl
 go_wp2
 refine wp_loop_rounds 1 ?_
 rw [rounds_succ]
 go_wp2
 have hq0:w4.cell? ⟨g9,0,none⟩=some (.int .u64 1):=(aak HG98.out 0).trans rfl
 have hq3:w4.cell? ⟨g9,3,none⟩=some (.slice A3 32 c3):=(aak HG98.out 3).trans rfl
 have hp0:w4.cell? ⟨g7,0,none⟩=some (.int .u64 0):=(aak HG78.out 0).trans rfl
 have hp1:w4.cell? ⟨g7,1,none⟩=some (.slice none 0 0):=(aak HG78.out 1).trans rfl
 have hz0:=afk HG78.out 0
 have hz1:=afk HG78.out 1
 go_region
 go_wp2
 have HG1:=anq (anq HG78.out 0 (.int .u64 1) rfl) 1 (.slice A3 32 c3) rfl
 refine bodyPost_ret (bJq rfl _ _ g7 29 #[.int .u64 1,.slice A3 32 c3] _ rfl (aoz HG1) Tryz.underlying29 rfl (by kernel_rfl)) rfl ?_
 exact⟨A3,c3,rfl,aez (adq (adq HB8.out HN7.out.1) HN7.out.1)⟩
def aNq : List Int:=List.replicate 32 0
theorem build0 (A0:Option Addr)(c0:Nat)(key:List Int)(T S:List Int)(w:World)(hr0:Kd.C (Kd.int .u8) w A0 key.length key)(hc0:key.length≤c0)(hk:key.length=32)(hT:bCk []=T)(hS:man0 1 aNq T++aDz (derived key 4 aEz) [man0 1 aNq T]=S) :
  Calls Tryz.prog 8 #[.slice A0 key.length c0,.agg #[.int .u64 0,.slice none 0 0],.int .u64 1,.slice none 0 0] w fun e w'=>∃ (v:Value) (A':Option Addr) (c':Nat),e=.returned (.tuple #[v,.agg #[.int .u64 1,.slice A' 32 c'],.int .i64 0])∧32≤c'∧Kd.R (Kd.int .u8) 5 w' w.heap.size (fun _=>True) v ([110]++S)∧Kd.C (Kd.int .u8) w' A' 32 T∧Below w.heap.size w w':=by
 have nT:T.length=32:=by rw [←hT];exact bqz []
 have nM:(man0 1 aNq T).length=78:=by rw [aWz];simp [aNq,nT]
 have nS:S.length=110:=by rw [←hS,List.length_append,nM,aGq]
 refine(archive_Build.calls (fun _=>[]) (fun T'=>T'=T) (fun T' r=>r=man0 1 aNq T) A0 c0 key 1 none 0 [] w hr0 hc0 hk ⟨by decide,by decide⟩ (Kd.a7q _ _) (by decide) (fun z hz=>by cases hz) (fun z hz=>by cases hz) (fun z hz=>by cases hz)
  (fun W A c ss hb hml hr hc=>?_) (fun T' r h=>by rw [h,nM];omega) (fun W A1 A2 A4 c1 c2 c4 T' hPT hb h1 h2 h4=>?_)).mono ?_
 ·cases ss with
  |cons a ss=>simp at hml
  |nil=>
   refine(rootOf0 W A c).mono ?_
   rintro e w' ⟨A',c',rfl,h1,h2,h3⟩
   exact⟨A',c',T,rfl,h1,rfl,hT ▸ h2,h3⟩
 ·subst hPT
  refine(manifest_Encode0.calls 1 A1 c1 aNq A2 c2 A4 c4 T' W ⟨by decide,by decide⟩ h1 h2 h4).mono ?_
  rintro e w' ⟨v,rfl,hR,hb⟩
  exact⟨v,_,rfl,rfl,hR,hb⟩
 ·rintro e w' ⟨v,T',r,ss,A',c',rfl,rfl,rfl,hml,hR,hC,hc,hb⟩
  cases ss with
  |cons a ss=>simp at hml
  |nil=>
   refine⟨v,A',c',rfl,hc,?_,hC,hb⟩
   have e1:avz (man0 1 aNq T'++aDz (derived key 4 aEz) [man0 1 aNq T'])++cats [] 0=[110]++S:=by
    rw [hS,avz,nS,vn110]
    exact List.append_nil _
   rw [←e1]
   exact hR
def caskettop_awake.T2 : Bool×List (List Nat×List Nat):=(true,[([],[]),([],[]),([],[]),([0,1,2,0],[0,1,2]),([3],[3]),([4],[4]),([4],[4]),([4],[4]),([],[]),([5,3,0,1,2,3,4,5,8],[5]),([8,6,9,0,1,2,3,4,5,6,8,9],[6,8]),([7,10,0,1,2,3,4,5,6,7,8,9,10],[7])])
def caskettop_awake.B2 : List Nat:=[0,0,0,7,15,31,31,31,0,319,895,2047]
theorem caskettop_awake.tab2 : rtab .any (opsOf Tryz.f6 2)=caskettop_awake.T2:=by kernel_rfl
theorem caskettop_awake.bits2 : aLq caskettop_awake.T2.2 caskettop_awake.B2=true:=by kernel_rfl
set_option maxHeartbeats 4000000 in
theorem awake_calls (w:World):Calls Tryz.prog 6 #[] w fun e w'=>e=.returned (.bool true)∧Below w.heap.size w w':=by
 obtain⟨KL,nK,hK⟩:=key_ex 1
 obtain⟨T,hT⟩:∃ T,bCk []=T:=⟨_,rfl⟩
 obtain⟨S,hS⟩:∃ S,man0 1 aNq T++aDz (derived KL 4 aEz) [man0 1 aNq T]=S:=⟨_,rfl⟩
 have nT:T.length=32:=by rw [←hT];exact bqz []
 have nL:([110]++S).length=111:=by
  rw [←hS]
  have nM:(man0 1 aNq T).length=78:=by rw [aWz];simp [aNq,nT]
  simp only [List.length_append,nM,aGq]
  rfl
 have bT:By T:=by rw [←hT];exact bHk _
 have bZ:By aNq:=fun x hx=>by
  have:=List.eq_of_mem_replicate hx
  omega
 have HKY:=Qz.k hK
 have NK:=Qz.k nK
 have HBD:=Qz.k (fun(A:Option Addr) (c:Nat) (W:World) (hr:Kd.C (Kd.int .u8) W A KL.length KL) (hc:KL.length≤c)=>build0 A c KL T S W hr hc nK hT hS)
 have HOP:=Qz.k (fun(A:Option Addr) (c:Nat) (A9:Option Addr) (c9:Nat) (A2:Option Addr) (c2:Nat) (W:World) (hr:Kd.C (Kd.int .u8) W A KL.length KL) (hc:KL.length≤c) (h9:Kd.C (Kd.int .u8) W A9 32 T) (g9:32≤c9) (h2:Kd.C (Kd.int .u8) W A2 111 ([110]++S)) (g2:111≤c2)=>archive_Open0.calls A c KL A9 c9 A2 c2 aNq T S W hr hc nK (by rfl) bZ hT.symm bT hS h9 g9 h2 g2)
 have NL:=Qz.k nL
 generalize [110]++S=L at *
 clear hK nK hS hT nT nL bT bZ
 go_enter Tryz.func6,Tryz.ntmps6
 go_wp2_with (fail)
 refine(HKY.out w).mono ?_
 rintro e W1 ⟨v1,rfl,ho,hb⟩
 obtain⟨A1,c1,e1⟩:=Kd.afz ho
 subst e1
 have HK1:=Qz.k (Kd.ack ho).2
 have HB:=Qz.k hb
 clear ho hb
 go_wp2_with (fail)
 refine(HBD.out A1 c1 W1 HK1.out.2 HK1.out.1).mono ?_
 rintro e W2 ⟨v2,A9,c9,rfl,hc9,ho,h9,hb⟩
 obtain⟨A2,c2,e2⟩:=Kd.afz ho
 rw [NL.out]at e2
 subst e2
 have HL:=Qz.k (show 111≤c2∧Kd.C (Kd.int .u8) W2 A2 111 L from⟨by have:=(Kd.ack ho).2.1;omega,NL.out ▸ (Kd.ack ho).2.2⟩)
 have H9:=Qz.k (show 32≤c9∧Kd.C (Kd.int .u8) W2 A9 32 T from⟨hc9,h9⟩)
 replace HB:=Qz.k (aaz HB.out hb)
 clear ho hb hc9 h9 HBD HK1
 go_upto_region 2 with(fail)
 have hb0:=aaq (Below.refl W2.heap.size W2) (.cells #[.int .u64 1,.slice A9 32 c9] 29)
 obtain⟨g2,hg2⟩:∃ g_,W2.heap.size=g_:=⟨_,rfl⟩
 obtain⟨W3,hW3⟩:∃ W_,W2.alloc (.cells #[.int .u64 1,.slice A9 32 c9] 29)=W_:=⟨_,rfl⟩
 have HS2:=Qz.k (show W3.heap[g2]? = some (.cells #[.int .u64 1,.slice A9 32 c9] 29 (0,0))from by rw [←hW3,←hg2];exact akz W2 _)
 rw [hW3]at hb0
 rw [hW3,hg2]
 replace HL:=Qz.k (show 111≤c2∧Kd.C (Kd.int .u8) W3 A2 111 L from⟨HL.out.1,Kd.acz HL.out.2 hb0⟩)
 replace H9:=Qz.k (show 32≤c9∧Kd.C (Kd.int .u8) W3 A9 32 T from⟨H9.out.1,Kd.acz H9.out.2 hb0⟩)
 have HW3:=Qz.k (aaz HB.out hb0)
 replace HB:=Qz.k (Below.refl W3.heap.size W3)
 clear hb0 hW3 hg2
 refine axq (n:=12) (S:=fun w'=>True) (ds:=[]) (bl 12 0) (by kernel_rfl) rfl rfl trivial (fun hHeld=>?_)
 refine aNk caskettop_awake.tab2 caskettop_awake.bits2 (fun HT_ HW_=>?_)
 refine pu_ 2 17 ?_ ?_ (bl 12 4) rfl rfl (amq HT_.out (by kernel_rfl)) ?_ ?_ ?_
 rotate_left 2
 ·intro w';go_simp;with_reducible rfl
 ·simp only [Act.put,putA,putZ,putS,abq,abk];rfl
 refine inv_at [0,1,3,4,5,6,7,8,9,10,11] (fun a0_ b a w'=>∃ (A15:Option Addr) (c15:Nat) (A18:Option Addr) (c18:Nat) (g5:Nat) (m0_:Value) (m3_:Value) (m4_:Value) (m6_:Value) (m8_:Value),a=awk a0_ b [(0,15,m0_),(1,16,.agg #[.int .u64 1,.slice A9 32 c9]),(3,18,m3_),(4,14,m4_),(5,19,.slice none 0 0),(6,20,m6_),(7,21,.int .i64 0),(8,5,m8_),(9,4,.slice none 0 0),(11,6,.int .i64 0)]∧(Below W3.heap.size W3 w')∧(b 0=true→b 3=false→Kd.R (Kd.int .u8) 5 w' W3.heap.size (fun _=>True) (.slice A15 KL.length c15) KL)∧(b 8=true→b 10=false→w'.heap[g5]? = some (.cells #[.int .u64 0,.slice none 0 0] 29 (0,0)))∧(b 8=true→W3.heap.size≤g5)∧(b 0=true→(m0_:Value)=.slice A15 KL.length c15)∧(b 3=true→(m3_:Value)=.tuple #[.slice none 0 0,.agg #[.int .u64 1,.slice A18 32 c18],.int .i64 0])∧(b 4=true→(m4_:Value)=.tuple #[.slice none 0 0,.agg #[.int .u64 1,.slice A18 32 c18],.int .i64 0])∧(b 6=true→(m6_:Value)=.agg #[.int .u64 1,.slice A18 32 c18])∧(b 8=true→(m8_:Value)=.pointer (some ⟨g5,0,none⟩))) HT_.out HW_.out (by kernel_rfl) (by kernel_rfl) ?_ ?_ ?_
 ·exact⟨none,0,none,0,0,.bool false,.bool false,.bool false,.bool false,.bool false,by simp only [awk,Bool.false_eq_true,if_false],(aez HB.out),fun h_=>absurd h_ (by decide),fun h_=>absurd h_ (by decide),fun h_=>absurd h_ (by decide),fun h_=>absurd h_ (by decide),fun h_=>absurd h_ (by decide),fun h_=>absurd h_ (by decide),fun h_=>absurd h_ (by decide),fun h_=>absurd h_ (by decide)⟩
 ·skip
  clear HB
  refine ajz ?_ ?_
  ·rintro b a w' ⟨A15,c15,A18,c18,g5,m0_,m3_,m4_,m6_,m8_,ha,Q_HB,Q_F15,Q_F5,Q_G5,Q_X0_,Q_X3_,Q_X4_,Q_X6_,Q_X8_⟩ hb_ hon hoff
   refine⟨_,rfl,fun K hK=>?_⟩
   replace ha:=Qz.k ha
   have HB:=Qz.k Q_HB
   refine aFq Tryz.func9 (by kernel_rfl) rfl #[.int .i64 1] (by rfl) rfl rfl (by simp only [List.map_toArray,List.map_cons,List.map_nil];rfl) ?_
   with_reducible refine(HKY.out w').mono ?_
   rintro e w3 ⟨v0,rfl,ho,hb⟩
   refine⟨_,rfl,?_⟩
   obtain⟨A_,c_,e_⟩:=Kd.afz ho
   subst e_
   refine hK.out _ _ ⟨A_,c_,A18,c18,g5,(.slice A_ KL.length c_),m3_,m4_,m6_,m8_,(by rw [ha.out];exact ajk 0 hb_ rfl rfl rfl),(aaz HB.out hb),fun _ _=>(Kd.aiq ho HB.out.size),fun h0_ h1_=>(agz (Q_F5 h0_ h1_) hb),fun h0_=>(Q_G5 h0_),fun _=>rfl,fun h0_=>absurd ((hoff 3 (by kernel_rfl)).symm.trans h0_) (by decide),fun h0_=>absurd ((hoff 4 (by kernel_rfl)).symm.trans h0_) (by decide),fun h0_=>absurd ((hoff 6 (by kernel_rfl)).symm.trans h0_) (by decide),Q_X8_⟩
  refine ajz ?_ ?_
  ·rintro b a w' ⟨A15,c15,A18,c18,g5,m0_,m3_,m4_,m6_,m8_,ha,Q_HB,Q_F15,Q_F5,Q_G5,Q_X0_,Q_X3_,Q_X4_,Q_X6_,Q_X8_⟩ hb_ hon hoff
   refine⟨_,rfl,fun K hK=>?_⟩
   have e2:a.tmps[2]? = some (.pointer (some ⟨g2,0,none⟩)):=by rw [ha];exact(auz rfl).trans rfl
   replace ha:=Qz.k ha
   have HB:=Qz.k Q_HB
   have hc0:=abz HB.out ((aak HS2.out 0).trans (show _=some (Value.int .u64 1)from rfl))
   have hc1:=abz HB.out ((aak HS2.out 1).trans (show _=some (Value.slice A9 32 c9)from rfl))
   have hv2:=apq e2
   refine aAq (w1:=w') (v := .agg #[.int .u64 1,.slice A9 32 c9]) (by rfl) rfl ?_ ?_
   ·go_simp
    (try simp only [abq])
    try rfl
   refine hK.out _ _ ⟨A15,c15,A18,c18,g5,m0_,m3_,m4_,m6_,m8_,(by rw [ha.out];exact ajk 1 hb_ rfl rfl rfl),Q_HB,Q_F15,Q_F5,Q_G5,Q_X0_,fun h0_=>absurd ((hoff 3 (by kernel_rfl)).symm.trans h0_) (by decide),fun h0_=>absurd ((hoff 4 (by kernel_rfl)).symm.trans h0_) (by decide),fun h0_=>absurd ((hoff 6 (by kernel_rfl)).symm.trans h0_) (by decide),Q_X8_⟩
  refine ajz ?_ ?_
  ·rintro b a w' ⟨A15,c15,A18,c18,g5,m0_,m3_,m4_,m6_,m8_,ha,Q_HB,Q_F15,Q_F5,Q_G5,Q_X0_,Q_X3_,Q_X4_,Q_X6_,Q_X8_⟩ hb_ hon hoff
   refine⟨_,rfl,fun K hK=>?_⟩
   have e15:a.tmps[15]? = some (m0_):=by rw [ha];exact alq (e:=(0,15,m0_)) 0 rfl rfl (hon 0 (by kernel_rfl)) rfl
   rw [Q_X0_ (hon 0 (by kernel_rfl))]at e15
   have e16:a.tmps[16]? = some (.agg #[.int .u64 1,.slice A9 32 c9]):=by rw [ha];exact alq (e:=(1,16,.agg #[.int .u64 1,.slice A9 32 c9])) 1 rfl rfl (hon 1 (by kernel_rfl)) rfl
   have e17:a.tmps[17]? = some (.slice A2 111 c2):=by rw [ha];exact(auz rfl).trans rfl
   replace ha:=Qz.k ha
   have HB:=Qz.k Q_HB
   have F15:=Qz.k (Q_F15 (hon 0 (by kernel_rfl)) hb_)
   refine aFq Tryz.func10 (by kernel_rfl) rfl #[.slice A15 KL.length c15,.agg #[.int .u64 1,.slice A9 32 c9],.slice A2 111 c2] (by rfl) rfl rfl (by simp only [List.map_toArray,List.map_cons,List.map_nil,Act.eval,Array.getD_eq_getD_getElem?,e15,e16,e17,Option.getD_some]) ?_
   with_reducible refine(HOP.out A15 c15 A9 c9 A2 c2 w' (Kd.ack F15.out).2.2 (Kd.ack F15.out).2.1 (Kd.acz H9.out.2 HB.out) H9.out.1 (Kd.acz HL.out.2 HB.out) HL.out.1).mono ?_
   rintro e w3 ⟨A_,c_,rfl,hb⟩
   refine⟨_,rfl,?_⟩
   refine hK.out _ _ ⟨A15,c15,A_,c_,g5,m0_,(.tuple #[.slice none 0 0,.agg #[.int .u64 1,.slice A_ 32 c_],.int .i64 0]),m4_,m6_,m8_,(by rw [ha.out];exact ajk 2 hb_ rfl rfl rfl),(aaz HB.out hb),fun _ h1_=>absurd ((aBq b 3).symm.trans h1_) (by decide),fun h0_ h1_=>(agz (Q_F5 h0_ h1_) hb),fun h0_=>(Q_G5 h0_),Q_X0_,fun _=>rfl,fun h0_=>absurd ((hoff 4 (by kernel_rfl)).symm.trans h0_) (by decide),fun h0_=>absurd ((hoff 6 (by kernel_rfl)).symm.trans h0_) (by decide),Q_X8_⟩
  refine ajz ?_ ?_
  ·rintro b a w' ⟨A15,c15,A18,c18,g5,m0_,m3_,m4_,m6_,m8_,ha,Q_HB,Q_F15,Q_F5,Q_G5,Q_X0_,Q_X3_,Q_X4_,Q_X6_,Q_X8_⟩ hb_ hon hoff
   refine⟨_,rfl,fun K hK=>?_⟩
   have e18:a.tmps[18]? = some (m3_):=by rw [ha];exact alq (e:=(3,18,m3_)) 2 rfl rfl (hon 3 (by kernel_rfl)) rfl
   rw [Q_X3_ (hon 3 (by kernel_rfl))]at e18
   replace ha:=Qz.k ha
   have HB:=Qz.k Q_HB
   refine aAq (w1:=w') (v := .tuple #[.slice none 0 0,.agg #[.int .u64 1,.slice A18 32 c18],.int .i64 0]) (by rfl) rfl ?_ ?_
   ·go_simp
    (try simp only [abq])
    try rfl
   refine hK.out _ _ ⟨A15,c15,A18,c18,g5,m0_,m3_,(.tuple #[.slice none 0 0,.agg #[.int .u64 1,.slice A18 32 c18],.int .i64 0]),m6_,m8_,(by rw [ha.out];exact ajk 3 hb_ rfl rfl rfl),Q_HB,fun _ h1_=>absurd ((hon 3 (by kernel_rfl)).symm.trans h1_) (by decide),Q_F5,Q_G5,Q_X0_,Q_X3_,fun _=>rfl,fun h0_=>absurd ((hoff 6 (by kernel_rfl)).symm.trans h0_) (by decide),Q_X8_⟩
  refine ajz ?_ ?_
  ·rintro b a w' ⟨A15,c15,A18,c18,g5,m0_,m3_,m4_,m6_,m8_,ha,Q_HB,Q_F15,Q_F5,Q_G5,Q_X0_,Q_X3_,Q_X4_,Q_X6_,Q_X8_⟩ hb_ hon hoff
   refine⟨_,rfl,fun K hK=>?_⟩
   have e14:a.tmps[14]? = some (m4_):=by rw [ha];exact alq (e:=(4,14,m4_)) 3 rfl rfl (hon 4 (by kernel_rfl)) rfl
   rw [Q_X4_ (hon 4 (by kernel_rfl))]at e14
   replace ha:=Qz.k ha
   have HB:=Qz.k Q_HB
   refine aAq (w1:=w') (v := .slice none 0 0) (by rfl) rfl ?_ ?_
   ·go_simp
    (try simp only [abq])
    try rfl
   refine hK.out _ _ ⟨A15,c15,A18,c18,g5,m0_,m3_,m4_,m6_,m8_,(by rw [ha.out];exact ajk 4 hb_ rfl rfl rfl),Q_HB,fun _ h1_=>absurd ((hon 3 (by kernel_rfl)).symm.trans h1_) (by decide),Q_F5,Q_G5,Q_X0_,Q_X3_,Q_X4_,Q_X6_,Q_X8_⟩
  refine ajz ?_ ?_
  ·rintro b a w' ⟨A15,c15,A18,c18,g5,m0_,m3_,m4_,m6_,m8_,ha,Q_HB,Q_F15,Q_F5,Q_G5,Q_X0_,Q_X3_,Q_X4_,Q_X6_,Q_X8_⟩ hb_ hon hoff
   refine⟨_,rfl,fun K hK=>?_⟩
   have e14:a.tmps[14]? = some (m4_):=by rw [ha];exact alq (e:=(4,14,m4_)) 3 rfl rfl (hon 4 (by kernel_rfl)) rfl
   rw [Q_X4_ (hon 4 (by kernel_rfl))]at e14
   replace ha:=Qz.k ha
   have HB:=Qz.k Q_HB
   refine aAq (w1:=w') (v := .agg #[.int .u64 1,.slice A18 32 c18]) (by rfl) rfl ?_ ?_
   ·go_simp
    (try simp only [abq])
    try rfl
   refine hK.out _ _ ⟨A15,c15,A18,c18,g5,m0_,m3_,m4_,(.agg #[.int .u64 1,.slice A18 32 c18]),m8_,(by rw [ha.out];exact ajk 5 hb_ rfl rfl rfl),Q_HB,fun _ h1_=>absurd ((hon 3 (by kernel_rfl)).symm.trans h1_) (by decide),Q_F5,Q_G5,Q_X0_,Q_X3_,Q_X4_,fun _=>rfl,Q_X8_⟩
  refine ajz ?_ ?_
  ·rintro b a w' ⟨A15,c15,A18,c18,g5,m0_,m3_,m4_,m6_,m8_,ha,Q_HB,Q_F15,Q_F5,Q_G5,Q_X0_,Q_X3_,Q_X4_,Q_X6_,Q_X8_⟩ hb_ hon hoff
   refine⟨_,rfl,fun K hK=>?_⟩
   have e14:a.tmps[14]? = some (m4_):=by rw [ha];exact alq (e:=(4,14,m4_)) 3 rfl rfl (hon 4 (by kernel_rfl)) rfl
   rw [Q_X4_ (hon 4 (by kernel_rfl))]at e14
   replace ha:=Qz.k ha
   have HB:=Qz.k Q_HB
   refine aAq (w1:=w') (v := .int .i64 0) (by rfl) rfl ?_ ?_
   ·go_simp
    (try simp only [abq])
    try rfl
   refine hK.out _ _ ⟨A15,c15,A18,c18,g5,m0_,m3_,m4_,m6_,m8_,(by rw [ha.out];exact ajk 6 hb_ rfl rfl rfl),Q_HB,fun _ h1_=>absurd ((hon 3 (by kernel_rfl)).symm.trans h1_) (by decide),Q_F5,Q_G5,Q_X0_,Q_X3_,Q_X4_,Q_X6_,Q_X8_⟩
  refine ajz ?_ ?_
  ·rintro b a w' ⟨A15,c15,A18,c18,g5,m0_,m3_,m4_,m6_,m8_,ha,Q_HB,Q_F15,Q_F5,Q_G5,Q_X0_,Q_X3_,Q_X4_,Q_X6_,Q_X8_⟩ hb_ hon hoff
   refine⟨_,rfl,fun K hK=>?_⟩
   replace ha:=Qz.k ha
   have HB:=Qz.k Q_HB
   have hb:=aaq (Below.refl w'.heap.size w') (.cells #[.int .u64 0,.slice none 0 0] 29)
   refine aAq (w1:=w'.alloc (.cells #[.int .u64 0,.slice none 0 0] 29)) (v := .pointer (some ⟨w'.heap.size,0,none⟩)) (by rfl) rfl ?_ ?_
   ·go_simp
   refine hK.out _ _ ⟨A15,c15,A18,c18,w'.heap.size,m0_,m3_,m4_,m6_,(.pointer (some ⟨w'.heap.size,0,none⟩)),(by rw [ha.out];exact ajk 7 hb_ rfl rfl rfl),(aaz HB.out hb),fun h0_ h1_=>(Kd.ahz (Q_F15 h0_ h1_) hb),fun _ _=>(akz w' _),fun _=>HB.out.size,Q_X0_,Q_X3_,Q_X4_,Q_X6_,fun _=>rfl⟩
  refine ajz ?_ ?_
  ·rintro b a w' ⟨A15,c15,A18,c18,g5,m0_,m3_,m4_,m6_,m8_,ha,Q_HB,Q_F15,Q_F5,Q_G5,Q_X0_,Q_X3_,Q_X4_,Q_X6_,Q_X8_⟩ hb_ hon hoff
   refine⟨_,rfl,fun K hK=>?_⟩
   have e19:a.tmps[19]? = some (.slice none 0 0):=by rw [ha];exact alq (e:=(5,19,.slice none 0 0)) 4 rfl rfl (hon 5 (by kernel_rfl)) rfl
   replace ha:=Qz.k ha
   have HB:=Qz.k Q_HB
   have F5:=Qz.k (Q_F5 (hon 8 (by kernel_rfl)) (hoff 10 (by kernel_rfl)))
   have G5:=Qz.k (Q_G5 (hon 8 (by kernel_rfl)))
   refine aAq (w1:=w') (v := .slice none 0 0) (by rfl) rfl ?_ ?_
   ·go_simp
    (try simp only [abq])
    try rfl
   refine hK.out _ _ ⟨A15,c15,A18,c18,g5,m0_,m3_,m4_,m6_,m8_,(by rw [ha.out];exact ajk 8 hb_ rfl rfl rfl),Q_HB,fun _ h1_=>absurd ((hon 3 (by kernel_rfl)).symm.trans h1_) (by decide),Q_F5,Q_G5,Q_X0_,Q_X3_,Q_X4_,Q_X6_,Q_X8_⟩
  refine ajz ?_ ?_
  ·rintro b a w' ⟨A15,c15,A18,c18,g5,m0_,m3_,m4_,m6_,m8_,ha,Q_HB,Q_F15,Q_F5,Q_G5,Q_X0_,Q_X3_,Q_X4_,Q_X6_,Q_X8_⟩ hb_ hon hoff
   refine⟨_,rfl,fun K hK=>?_⟩
   have e5:a.tmps[5]? = some (m8_):=by rw [ha];exact alq (e:=(8,5,m8_)) 7 rfl rfl (hon 8 (by kernel_rfl)) rfl
   rw [Q_X8_ (hon 8 (by kernel_rfl))]at e5
   have e20:a.tmps[20]? = some (m6_):=by rw [ha];exact alq (e:=(6,20,m6_)) 5 rfl rfl (hon 6 (by kernel_rfl)) rfl
   rw [Q_X6_ (hon 6 (by kernel_rfl))]at e20
   replace ha:=Qz.k ha
   have HB:=Qz.k Q_HB
   have F5:=Qz.k (Q_F5 (hon 8 (by kernel_rfl)) hb_)
   have G5:=Qz.k (Q_G5 (hon 8 (by kernel_rfl)))
   have hc0:=(aak F5.out 0).trans (show _=some (Value.int .u64 0)from rfl)
   have hc1:=(aak F5.out 1).trans (show _=some (Value.slice none 0 0)from rfl)
   have hz0:=afk F5.out 0
   have hz1:=afk F5.out 1
   have hv5:=apq e5
   have hv20:=apq e20
   refine bbk (w1:=(w'.setCell ⟨g5,0,none⟩ (.int .u64 1)).setCell ⟨g5,1,none⟩ (.slice A18 32 c18)) (by rfl) rfl ?_ ?_
   ·go_simp
    done
   refine hK.out _ _ ⟨A15,c15,A18,c18,g5,m0_,m3_,m4_,m6_,m8_,(by rw [ha.out];exact bLq (v:=undef) rfl),(adq (adq HB.out G5.out) G5.out),fun _ h1_=>absurd ((hon 3 (by kernel_rfl)).symm.trans h1_) (by decide),fun _ h1_=>absurd ((aBq b 10).symm.trans h1_) (by decide),fun _=>G5.out,Q_X0_,Q_X3_,Q_X4_,Q_X6_,Q_X8_⟩
  refine ajz ?_ ?_
  ·rintro b a w' ⟨A15,c15,A18,c18,g5,m0_,m3_,m4_,m6_,m8_,ha,Q_HB,Q_F15,Q_F5,Q_G5,Q_X0_,Q_X3_,Q_X4_,Q_X6_,Q_X8_⟩ hb_ hon hoff
   refine⟨_,rfl,fun K hK=>?_⟩
   have e21:a.tmps[21]? = some (.int .i64 0):=by rw [ha];exact alq (e:=(7,21,.int .i64 0)) 6 rfl rfl (hon 7 (by kernel_rfl)) rfl
   replace ha:=Qz.k ha
   have HB:=Qz.k Q_HB
   have G5:=Qz.k (Q_G5 (hon 8 (by kernel_rfl)))
   refine aAq (w1:=w') (v := .int .i64 0) (by rfl) rfl ?_ ?_
   ·go_simp
    (try simp only [abq])
    try rfl
   refine hK.out _ _ ⟨A15,c15,A18,c18,g5,m0_,m3_,m4_,m6_,m8_,(by rw [ha.out];exact ajk 9 hb_ rfl rfl rfl),Q_HB,fun _ h1_=>absurd ((hon 3 (by kernel_rfl)).symm.trans h1_) (by decide),fun _ h1_=>absurd ((hon 10 (by kernel_rfl)).symm.trans h1_) (by decide),Q_G5,Q_X0_,Q_X3_,Q_X4_,Q_X6_,Q_X8_⟩
  exact bbq
 rintro b a w' hall ⟨A15,c15,A18,c18,g5,m0_,m3_,m4_,m6_,m8_,ha,Q_HB,Q_F15,Q_F5,Q_G5,Q_X0_,Q_X3_,Q_X4_,Q_X6_,Q_X8_⟩
 clear HB
 have hb0_:=hall 0 (by kernel_rfl)
 have hb1_:=hall 1 (by kernel_rfl)
 have hb3_:=hall 3 (by kernel_rfl)
 have hb4_:=hall 4 (by kernel_rfl)
 have hb5_:=hall 5 (by kernel_rfl)
 have hb6_:=hall 6 (by kernel_rfl)
 have hb7_:=hall 7 (by kernel_rfl)
 have hb8_:=hall 8 (by kernel_rfl)
 have hb9_:=hall 9 (by kernel_rfl)
 have hb10_:=hall 10 (by kernel_rfl)
 have hb11_:=hall 11 (by kernel_rfl)
 subst ha
 obtain rfl:=Q_X0_ hb0_
 obtain rfl:=Q_X3_ hb3_
 obtain rfl:=Q_X4_ hb4_
 obtain rfl:=Q_X6_ hb6_
 obtain rfl:=Q_X8_ hb8_
 simp only [awk,hb0_,hb1_,hb3_,hb4_,hb5_,hb6_,hb7_,hb8_,hb9_,hb10_,hb11_,if_true,Act.put,List.setIfInBounds_toArray,List.set_cons_zero,List.set_cons_succ]
 have HB:=Qz.k Q_HB
 clear Q_HB
 clear Q_F15
 clear Q_F5
 have G5:=Qz.k (Q_G5 hb8_)
 clear Q_G5
 clear hall hb0_ hb1_ hb3_ hb4_ hb5_ hb6_ hb7_ hb8_ hb9_ hb10_ hb11_
 go_wp2
 go_ret
 exact⟨rfl,aaz HW3.out HB.out⟩
end Go.Proofs.YthggdomocichdaaGreatDoor.P
