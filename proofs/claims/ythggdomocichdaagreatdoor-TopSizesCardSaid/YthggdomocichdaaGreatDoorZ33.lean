/- Put together: Chk, Tsz2, TSz, PureTopSizes. -/
import Derived.Test.YthggdomocichdaaGreatDoorZ30
import Derived.Test.YthggdomocichdaaGreatDoorZ34
set_option maxRecDepth 100000
set_option linter.unusedVariables false
set_option linter.unusedSimpArgs false
namespace Go.Proofs.YthggdomocichdaaGreatDoor.P
open Go.RowKit Go.Proofs.YthggdomocichdaaGreatDoor.Kit Go.Proofs.YthggdomocichdaaGreatDoor.Var Go.Proofs.YthggdomocichdaaGreatDoorW.PrintWords Go.Proofs.YthggdomocichdaaGreatDoorW.PrintLast Go.Proofs.YthggdomocichdaaGreatDoorW.PrintMore
theorem int_one {k:IntKind}{W:World}{g:Nat}{x:Int}(hcell:W.cell? ⟨g,0,none⟩=some (.int k x)):Kd.C (Kd.int k) W (some ⟨g,0,none⟩) 1 [x]:=by
 refine⟨rfl,by decide,fun _=>⟨_,rfl,fun j p hj=>?_⟩⟩
 cases j with
 |succ j=>simp at hj
 |zero=>
  simp only [List.getElem?_cons_zero,Option.some.injEq]at hj
  subst hj
  refine⟨[.int k x],rfl,rfl,fun i u hu=>?_⟩
  cases i with
  |succ i=>simp at hu
  |zero=>
   simp only [List.getElem?_cons_zero,Option.some.injEq]at hu
   subst hu
   exact hcell
def bQz (s:ByteArray)(n:Nat)(rt rv:List Int):List Int:=((([1]++avz (sB s))++vn n)++avz rt)++avz rv
theorem take_f {α : Type}(l:List S56)(f:S56→α)(j:Nat)(hj:j<l.length):(l.take j).map f ++ [f (bYq l (j:Int))]=(l.take (j+1)).map f:=by
 have e:bYq l (j:Int)=l[j]:=by simp [bYq,List.getD_eq_getElem?_getD,List.getElem?_eq_getElem hj]
 rw [e,List.take_add_one,List.getElem?_eq_getElem hj,List.map_append]
 rfl
def chunk_Encode.T8 : Bool×List (List Nat×List Nat):=(true,[([],[]),([],[]),([1],[1]),([2],[2]),([0,3],[0,3]),([],[]),([],[]),([6],[6]),([7],[7]),([5,8,4],[5,8]),([4,9,0,1,2,3,4],[0,4]),([9,10,0,1,2,3,4,5,6,7,8,9,10],[5,9])])
def chunk_Encode.B8 : List Nat:=[0,0,2,6,15,0,0,64,192,511,1023,2047]
theorem chunk_Encode.tab8 : rtab .any (opsOf Tryz.f14 8)=chunk_Encode.T8:=by kernel_rfl
theorem chunk_Encode.bits8 : aLq chunk_Encode.T8.2 chunk_Encode.B8=true:=by kernel_rfl
set_option maxHeartbeats 8000000 in
theorem chunk_Encode.calls (rt rv:List Int)(s:ByteArray)(A1:Option Addr)(c1:Nat)(l:List S56)(w:World)(hs:s.size≤64)(hr1:Kd.C k56 w A1 l.length l)(hc1:l.length≤c1)(hl:l.length<1024)(hrt:rt.length≤8*l.length+1)(hrv:rv.length≤8*l.length+1)
  (hI:∀ (W:World) (A:Option Addr) (c:Nat),Below w.heap.size w W→Kd.C (Kd.int .i64) W A l.length (l.map S56.f0)→l.length≤c→Calls Tryz.prog 41 #[.slice A l.length c] W fun e w'=>∃ v,e=.returned (.tuple #[v,.int .i64 0])∧Kd.R (Kd.int .u8) 5 w' W.heap.size (fun _=>True) v rt∧Below W.heap.size W w')
  (hV:∀ (W:World) (A:Option Addr) (c:Nat),Below w.heap.size w W→Kd.C (Kd.int .u64) W A l.length (l.map S56.f1)→l.length≤c→Calls Tryz.prog 42 #[.slice A l.length c] W fun e w'=>∃ v,e=.returned (.tuple #[v,.int .i64 0])∧Kd.R (Kd.int .u8) 5 w' W.heap.size (fun _=>True) v rv∧Below W.heap.size W w') :
  Calls Tryz.prog 14 #[.agg #[.string s,.slice A1 l.length c1]] w fun e w'=>∃ v,e=.returned (.tuple #[v,.int .i64 0])∧Kd.R (Kd.int .u8) 5 w' w.heap.size (fun _=>True) v (bQz s l.length rt rv)∧Below w.heap.size w w':=by
 have HR:=Qz.k hr1
 have HS:=Qz.k hs
 have HLL:=Qz.k hl
 have HI:=Qz.k hI
 have HV:=Qz.k hV
 have HTF:=Qz.k (fun(j:Nat) (hj:j<l.length)=>take_f l S56.f0 j hj)
 have HUF:=Qz.k (fun(j:Nat) (hj:j<l.length)=>take_f l S56.f1 j hj)
 have nrt:=Qz.k (show rt.length<8192 from by omega)
 have nrv:=Qz.k (show rv.length<8192 from by omega)
 have HBL:=Qz.k (show(avz (sB s)).length≤65 from by rw [aKq _ (by rw [aCk];omega),aCk];omega)
 have HBS:=Qz.k (fun(W:World) (A:Option Addr) (c:Nat) hr hc=>aIk A c (sB s) W hr hc (by rw [aCk];omega))
 have HBT:=Qz.k (fun(W:World) (A:Option Addr) (c:Nat) hr hc=>aIk A c rt W hr hc (by omega))
 have HBV:=Qz.k (fun(W:World) (A:Option Addr) (c:Nat) hr hc=>aIk A c rv W hr hc (by omega))
 have nBT:=Qz.k (show(avz rt).length<8300 from by rw [avz,List.length_append];have:=avk rt.length (by omega);omega)
 have nBV:=Qz.k (show(avz rv).length<8300 from by rw [avz,List.length_append];have:=avk rv.length (by omega);omega)
 have HWV:=Qz.k (show IntKind.u64.wrap (l.length:Int)=(l.length:Int)from by rw [aMq];omega)
 have nVN:=Qz.k (show(vn l.length).length≤10 from avk _ (by omega))
 have HFIN:=Qz.k (show((([1]++avz (sB s))++vn l.length)++avz rt)++avz rv=bQz s l.length rt rv from rfl)
 generalize bQz s l.length rt rv=RES at *
 generalize avz (sB s)=BS at *
 generalize avz rt=BT at *
 generalize avz rv=BV at *
 have x1:decide (64<(s.size:Int))=false:=decide_eq_false (by omega)
 have x2:decide (64<s.size)=false:=decide_eq_false (by omega)
 have x3:decide (65536<(l.length:Int))=false:=decide_eq_false (by omega)
 have x4:decide (65536<l.length)=false:=decide_eq_false (by omega)
 clear hr1 hs hl hI hV hrt hrv
 go_enter Tryz.func14,Tryz.ntmps14
 have hb0:=aaq (Below.refl w.heap.size w) (.cells #[.string s,.slice A1 l.length c1] 43)
 have hz0:(w.alloc (.cells #[.string s,.slice A1 l.length c1] 43)).cell? ⟨w.heap.size,0,none⟩=some (.string s):=(aak (akz w _) 0).trans rfl
 have hz1:(w.alloc (.cells #[.string s,.slice A1 l.length c1] 43)).cell? ⟨w.heap.size,1,none⟩=some (.slice A1 l.length c1):=(aak (akz w _) 1).trans rfl
 go_wp2
 obtain⟨W0,hW0⟩:∃ W0,w.alloc (.cells #[.string s,.slice A1 l.length c1] 43)=W0:=⟨_,rfl⟩
 rw [hW0]at hz0 hz1 hb0
 rw [hW0]
 have HZ0:=Qz.k hz0
 have HZ1:=Qz.k hz1
 have HW0:=Qz.k hb0
 have HR0:=Qz.k (Kd.acz HR.out hb0)
 clear hz0 hz1 hb0 hW0 HR
 go_loopg [4,5,7,26] l.length (fun kq v4 v5 v7 v26 W'=>∃ j:Nat,v26=.int .i64 (j:Int)∧kq=l.length-j∧j≤l.length∧Qz (Kd.R (Kd.int .i64) 3 W' W0.heap.size (fun _=>True) v4 ((l.take j).map S56.f0))∧Qz (Kd.R (Kd.int .u64) 22 W' W0.heap.size (fun _=>True) v5 ((l.take j).map S56.f1))∧Qz (Below W0.heap.size W0 W'))
 case atStart=>exact⟨0,rfl,rfl,by omega,⟨Kd.ayz _ _ _ _ _⟩,⟨Kd.ayz _ _ _ _ _⟩,⟨Below.refl _ _⟩⟩
 case round=>
  obtain⟨j,rfl,rfl,hj,HT,HU,HB⟩:=hrel
  by_cases hlt:j<l.length
  ·have c5:decide ((j:Int)<(l.length:Int))=true:=decide_eq_true (by omega)
   have c6:decide (j<l.length)=true:=decide_eq_true hlt
   have n0:(j:Int)<1024:=by have:=HLL.out;omega
   have HW:=Qz.k (show wrap64 ((j:Int)+1)=((j+1:Nat):Int)from by rw [agq (by omega) (by omega)];omega)
   obtain⟨ad,e5,hx0,hx1⟩:=at_T56 HR0.out (j:Int) (by omega) (by omega)
   subst e5
   rw [Int.toNat_natCast]at hx0 hx1
   replace hx0:=(HB.out.cell (World.block_lt_of_cell? _ _ hx0)).trans hx0
   replace hx1:=(HB.out.cell (World.block_lt_of_cell? _ _ hx1)).trans hx1
   have HTJ:=Qz.k (HTF.out j hlt)
   have HUJ:=Qz.k (HUF.out j hlt)
   have HTN:=Qz.k (show((l.take j).map S56.f0).length≤1024 from by rw [List.length_map,List.length_take];have:=HLL.out;omega)
   have HUN:=Qz.k (show((l.take j).map S56.f1).length≤1024 from by rw [List.length_map,List.length_take];have:=HLL.out;omega)
   generalize bYq l (j:Int)=x at *
   generalize (l.take j).map S56.f0=TL at *
   generalize (l.take j).map S56.f1=UL at *
   go_upto_region 8 with(fail)
   have hb1:=aaq (Below.refl wr.heap.size wr) (.cells #[.int .i64 x.f0,.int .u64 x.f1] 56)
   obtain⟨g7,hg7⟩:∃ g_,wr.heap.size=g_:=⟨_,rfl⟩
   obtain⟨W1,hW1⟩:∃ W1,wr.alloc (.cells #[.int .i64 x.f0,.int .u64 x.f1] 56)=W1:=⟨_,rfl⟩
   have HE:=Qz.k (show W1.heap[g7]? = some (.cells #[.int .i64 x.f0,.int .u64 x.f1] 56 (0,0))from by rw [←hW1,←hg7];exact akz wr _)
   rw [hW1]at hb1
   rw [hW1,hg7]
   replace HT:=Qz.k (Kd.ahz HT.out hb1)
   replace HU:=Qz.k (Kd.ahz HU.out hb1)
   replace HB:=Qz.k (aaz HB.out hb1)
   clear hb1 hW1 hg7 hx0 hx1
   refine axq (n:=12) (S:=fun w'=>True) (ds:=[]) (bl 12 0) (by kernel_rfl) rfl rfl trivial (fun hHeld=>?_)
   refine aNk chunk_Encode.tab8 chunk_Encode.bits8 (fun HT_ HW_=>?_)
   refine pu_ 0 30 ?_ ?_ (bl 12 1) rfl rfl (amq HT_.out (by kernel_rfl)) ?_ ?_ ?_
   rotate_left 2
   ·intro w';go_simp;with_reducible rfl
   ·simp only [Act.put,putA,putZ,putS,abq,abk];rfl
   refine pu_ 1 31 ?_ ?_ (bl 12 3) rfl rfl (amq HT_.out (by kernel_rfl)) ?_ ?_ ?_
   rotate_left 2
   ·intro w';go_simp;with_reducible rfl
   ·simp only [Act.put,putA,putZ,putS,abq,abk];rfl
   refine pu_ 5 35 ?_ ?_ (bl 12 35) rfl rfl (amq HT_.out (by kernel_rfl)) ?_ ?_ ?_
   rotate_left 2
   ·intro w';go_simp;with_reducible rfl
   ·simp only [Act.put,putA,putZ,putS,abq,abk];rfl
   refine pu_ 6 36 ?_ ?_ (bl 12 99) rfl rfl (amq HT_.out (by kernel_rfl)) ?_ ?_ ?_
   rotate_left 2
   ·intro w';go_simp;with_reducible rfl
   ·simp only [Act.put,putA,putZ,putS,abq,abk];rfl
   refine inv_at [2,3,4,7,8,9,10,11] (fun a0_ b a w'=>∃ (g33:Nat) (v34:Value) (g38:Nat) (v39:Value) (m3_:Value) (m8_:Value) (m10_:Value) (m11_:Value),a=awk a0_ b [(2,32,.int .i64 x.f0),(3,33,m3_),(4,34,v34),(7,37,.int .u64 x.f1),(8,38,m8_),(9,39,v39),(10,4,m10_),(11,5,m11_)]∧(Below W0.heap.size W0 w')∧(w'.heap[g7]? = some (.cells #[.int .i64 x.f0,.int .u64 x.f1] 56 (0,0)))∧(b 4=false→Kd.R (Kd.int .i64) 3 w' W0.heap.size (fun _=>True) u4 TL)∧(b 9=false→Kd.R (Kd.int .u64) 22 w' W0.heap.size (fun _=>True) u5 UL)∧(b 3=true→b 4=false→w'.heap[g33]? = some (.cells #[.int .i64 x.f0] 3 (0,0)))∧(b 4=true→Kd.R (Kd.int .i64) 3 w' W0.heap.size (fun _=>True) v34 (TL ++ [x.f0]))∧(b 8=true→b 9=false→w'.heap[g38]? = some (.cells #[.int .u64 x.f1] 22 (0,0)))∧(b 9=true→Kd.R (Kd.int .u64) 22 w' W0.heap.size (fun _=>True) v39 (UL ++ [x.f1]))∧(b 3=true→(m3_:Value)=.slice (some ⟨g33,0,none⟩) 1 1)∧(b 8=true→(m8_:Value)=.slice (some ⟨g38,0,none⟩) 1 1)∧(b 10=true→(m10_:Value)=v34)∧(b 11=true→(m11_:Value)=v39)) HT_.out HW_.out (by kernel_rfl) (by kernel_rfl) ?_ ?_ ?_
   ·exact⟨0,.bool false,0,.bool false,.bool false,.bool false,.bool false,.bool false,by simp only [awk,Bool.false_eq_true,if_false],(aez HB.out),(show _ from HE.out),fun _=>(Kd.amz HT.out),fun _=>(Kd.amz HU.out),fun h_=>absurd h_ (by decide),fun h_=>absurd h_ (by decide),fun h_=>absurd h_ (by decide),fun h_=>absurd h_ (by decide),fun h_=>absurd h_ (by decide),fun h_=>absurd h_ (by decide),fun h_=>absurd h_ (by decide),fun h_=>absurd h_ (by decide)⟩
   ·skip
    clear HB HE HT HU
    refine ajz ?_ ?_
    ·rintro b a w' ⟨g33,v34,g38,v39,m3_,m8_,m10_,m11_,ha,Q_HB,Q_HE,Q_HT,Q_HU,Q_F33,Q_F34,Q_F38,Q_F39,Q_X3_,Q_X8_,Q_X10_,Q_X11_⟩ hb_ hon hoff
     refine⟨_,rfl,fun K hK=>?_⟩
     have e31:a.tmps[31]? = some (.pointer (some ⟨g7,0,none⟩)):=by rw [ha];exact(auz rfl).trans rfl
     replace ha:=Qz.k ha
     have HB:=Qz.k Q_HB
     have HE:=Qz.k Q_HE
     have HT:=Qz.k (Q_HT (hoff 4 (by kernel_rfl)))
     have HU:=Qz.k (Q_HU (hoff 9 (by kernel_rfl)))
     have hc:=(aak HE.out 0).trans (show _=some (Value.int .i64 x.f0)from rfl)
     have hv31:=apq e31
     refine aAq (w1:=w') (v := .int .i64 x.f0) (by rfl) rfl ?_ ?_
     ·go_simp
      (try simp only [abq])
      try rfl
     refine hK.out _ _ ⟨g33,v34,g38,v39,m3_,m8_,m10_,m11_,(by rw [ha.out];exact ajk 0 hb_ rfl rfl rfl),Q_HB,Q_HE,Q_HT,Q_HU,fun h0_ _=>absurd ((hoff 3 (by kernel_rfl)).symm.trans h0_) (by decide),fun h0_=>absurd ((hoff 4 (by kernel_rfl)).symm.trans h0_) (by decide),Q_F38,fun h0_=>absurd ((hoff 9 (by kernel_rfl)).symm.trans h0_) (by decide),fun h0_=>absurd ((hoff 3 (by kernel_rfl)).symm.trans h0_) (by decide),Q_X8_,fun h0_=>absurd ((hoff 10 (by kernel_rfl)).symm.trans h0_) (by decide),fun h0_=>absurd ((hoff 11 (by kernel_rfl)).symm.trans h0_) (by decide)⟩
    refine ajz ?_ ?_
    ·rintro b a w' ⟨g33,v34,g38,v39,m3_,m8_,m10_,m11_,ha,Q_HB,Q_HE,Q_HT,Q_HU,Q_F33,Q_F34,Q_F38,Q_F39,Q_X3_,Q_X8_,Q_X10_,Q_X11_⟩ hb_ hon hoff
     refine⟨_,rfl,fun K hK=>?_⟩
     have e32:a.tmps[32]? = some (.int .i64 x.f0):=by rw [ha];exact alq (e:=(2,32,.int .i64 x.f0)) 0 rfl rfl (hon 2 (by kernel_rfl)) rfl
     replace ha:=Qz.k ha
     have HB:=Qz.k Q_HB
     have HE:=Qz.k Q_HE
     have HT:=Qz.k (Q_HT (hoff 4 (by kernel_rfl)))
     have HU:=Qz.k (Q_HU (hoff 9 (by kernel_rfl)))
     have hb:=aaq (Below.refl w'.heap.size w') (.cells #[.int .i64 x.f0] 3)
     have hv32:=apq e32
     refine aAq (w1:=w'.alloc (.cells #[.int .i64 x.f0] 3)) (v := .slice (some ⟨w'.heap.size,0,none⟩) 1 1) (by rfl) rfl ?_ ?_
     ·go_simp
     refine hK.out _ _ ⟨w'.heap.size,v34,g38,v39,(.slice (some ⟨w'.heap.size,0,none⟩) 1 1),m8_,m10_,m11_,(by rw [ha.out];exact ajk 1 hb_ rfl rfl rfl),(aaz HB.out hb),(agz HE.out hb),fun _=>(Kd.ahz HT.out hb),fun _=>(Kd.ahz HU.out hb),fun _ _=>(akz w' _),fun h0_=>absurd ((hoff 4 (by kernel_rfl)).symm.trans h0_) (by decide),fun h0_ h1_=>(agz (Q_F38 h0_ h1_) hb),fun h0_=>absurd ((hoff 9 (by kernel_rfl)).symm.trans h0_) (by decide),fun _=>rfl,Q_X8_,fun h0_=>absurd ((hoff 10 (by kernel_rfl)).symm.trans h0_) (by decide),fun h0_=>absurd ((hoff 11 (by kernel_rfl)).symm.trans h0_) (by decide)⟩
    refine ajz ?_ ?_
    ·rintro b a w' ⟨g33,v34,g38,v39,m3_,m8_,m10_,m11_,ha,Q_HB,Q_HE,Q_HT,Q_HU,Q_F33,Q_F34,Q_F38,Q_F39,Q_X3_,Q_X8_,Q_X10_,Q_X11_⟩ hb_ hon hoff
     refine⟨_,rfl,fun K hK=>?_⟩
     have e30:a.tmps[30]? = some (u4):=by rw [ha];exact(auz rfl).trans rfl
     have e33:a.tmps[33]? = some (m3_):=by rw [ha];exact alq (e:=(3,33,m3_)) 1 rfl rfl (hon 3 (by kernel_rfl)) rfl
     rw [Q_X3_ (hon 3 (by kernel_rfl))]at e33
     replace ha:=Qz.k ha
     have HB:=Qz.k Q_HB
     have HE:=Qz.k Q_HE
     have HT:=Qz.k (Q_HT hb_)
     have HU:=Qz.k (Q_HU (hoff 9 (by kernel_rfl)))
     have F33:=Qz.k (Q_F33 (hon 3 (by kernel_rfl)) hb_)
     refine Kd.avq (Kd.int .i64) (w0:=W0) W0.heap.size (by rfl) (.tmp 30) (.tmp 33) 80 3 (.int .i64 0) 8 rfl Tryz.underlying80 info3 rfl (by decide) (by decide) u4 TL [x.f0] _ _ _ (fun _=>True) (fun _=>False) (apq e30) (apq e33) HT.out (int_one ((aak F33.out 0).trans rfl)) (fun _ _ h=>h) (fun _ h=>h.elim) (fun _ _=>trivial) HB.out HB.out.size (by have:=HTN.out;omega) ?_
     intro v0 w3 ho hb hg hat
     refine hK.out _ _ ⟨g33,v0,g38,v39,m3_,m8_,m10_,m11_,(by rw [ha.out];exact ajk 2 hb_ rfl rfl rfl),hb,(ark HE.out hg (Kd.R_ne HT.out HE.out (by decide))),fun h0_=>absurd ((aBq b 4).symm.trans h0_) (by decide),fun _=>(aLz HU.out HT.out hg (by decide)),fun _ h1_=>absurd ((aBq b 4).symm.trans h1_) (by decide),fun _=>ho,fun h0_ h1_=>(ark (Q_F38 h0_ h1_) hg (Kd.R_ne HT.out (Q_F38 h0_ h1_) (by decide))),fun h0_=>absurd ((hoff 9 (by kernel_rfl)).symm.trans h0_) (by decide),Q_X3_,Q_X8_,fun h0_=>absurd ((hoff 10 (by kernel_rfl)).symm.trans h0_) (by decide),fun h0_=>absurd ((hoff 11 (by kernel_rfl)).symm.trans h0_) (by decide)⟩
    refine ajz ?_ ?_
    ·rintro b a w' ⟨g33,v34,g38,v39,m3_,m8_,m10_,m11_,ha,Q_HB,Q_HE,Q_HT,Q_HU,Q_F33,Q_F34,Q_F38,Q_F39,Q_X3_,Q_X8_,Q_X10_,Q_X11_⟩ hb_ hon hoff
     refine⟨_,rfl,fun K hK=>?_⟩
     have e36:a.tmps[36]? = some (.pointer (some ⟨g7,1,none⟩)):=by rw [ha];exact(auz rfl).trans rfl
     replace ha:=Qz.k ha
     have HB:=Qz.k Q_HB
     have HE:=Qz.k Q_HE
     have HU:=Qz.k (Q_HU (hoff 9 (by kernel_rfl)))
     have hc:=(aak HE.out 1).trans (show _=some (Value.int .u64 x.f1)from rfl)
     have hv36:=apq e36
     refine aAq (w1:=w') (v := .int .u64 x.f1) (by rfl) rfl ?_ ?_
     ·go_simp
      (try simp only [abq])
      try rfl
     refine hK.out _ _ ⟨g33,v34,g38,v39,m3_,m8_,m10_,m11_,(by rw [ha.out];exact ajk 3 hb_ rfl rfl rfl),Q_HB,Q_HE,Q_HT,Q_HU,Q_F33,Q_F34,fun h0_ _=>absurd ((hoff 8 (by kernel_rfl)).symm.trans h0_) (by decide),fun h0_=>absurd ((hoff 9 (by kernel_rfl)).symm.trans h0_) (by decide),Q_X3_,fun h0_=>absurd ((hoff 8 (by kernel_rfl)).symm.trans h0_) (by decide),fun h0_=>absurd ((hoff 10 (by kernel_rfl)).symm.trans h0_) (by decide),fun h0_=>absurd ((hoff 11 (by kernel_rfl)).symm.trans h0_) (by decide)⟩
    refine ajz ?_ ?_
    ·rintro b a w' ⟨g33,v34,g38,v39,m3_,m8_,m10_,m11_,ha,Q_HB,Q_HE,Q_HT,Q_HU,Q_F33,Q_F34,Q_F38,Q_F39,Q_X3_,Q_X8_,Q_X10_,Q_X11_⟩ hb_ hon hoff
     refine⟨_,rfl,fun K hK=>?_⟩
     have e37:a.tmps[37]? = some (.int .u64 x.f1):=by rw [ha];exact alq (e:=(7,37,.int .u64 x.f1)) 3 rfl rfl (hon 7 (by kernel_rfl)) rfl
     replace ha:=Qz.k ha
     have HB:=Qz.k Q_HB
     have HE:=Qz.k Q_HE
     have HU:=Qz.k (Q_HU (hoff 9 (by kernel_rfl)))
     have hb:=aaq (Below.refl w'.heap.size w') (.cells #[.int .u64 x.f1] 22)
     have hv37:=apq e37
     refine aAq (w1:=w'.alloc (.cells #[.int .u64 x.f1] 22)) (v := .slice (some ⟨w'.heap.size,0,none⟩) 1 1) (by rfl) rfl ?_ ?_
     ·go_simp
     refine hK.out _ _ ⟨g33,v34,w'.heap.size,v39,m3_,(.slice (some ⟨w'.heap.size,0,none⟩) 1 1),m10_,m11_,(by rw [ha.out];exact ajk 4 hb_ rfl rfl rfl),(aaz HB.out hb),(agz HE.out hb),fun h0_=>(Kd.ahz (Q_HT h0_) hb),fun _=>(Kd.ahz HU.out hb),fun h0_ h1_=>(agz (Q_F33 h0_ h1_) hb),fun h0_=>(Kd.ahz (Q_F34 h0_) hb),fun _ _=>(akz w' _),fun h0_=>absurd ((hoff 9 (by kernel_rfl)).symm.trans h0_) (by decide),Q_X3_,fun _=>rfl,fun h0_=>absurd ((hoff 10 (by kernel_rfl)).symm.trans h0_) (by decide),fun h0_=>absurd ((hoff 11 (by kernel_rfl)).symm.trans h0_) (by decide)⟩
    refine ajz ?_ ?_
    ·rintro b a w' ⟨g33,v34,g38,v39,m3_,m8_,m10_,m11_,ha,Q_HB,Q_HE,Q_HT,Q_HU,Q_F33,Q_F34,Q_F38,Q_F39,Q_X3_,Q_X8_,Q_X10_,Q_X11_⟩ hb_ hon hoff
     refine⟨_,rfl,fun K hK=>?_⟩
     have e35:a.tmps[35]? = some (u5):=by rw [ha];exact(auz rfl).trans rfl
     have e38:a.tmps[38]? = some (m8_):=by rw [ha];exact alq (e:=(8,38,m8_)) 4 rfl rfl (hon 8 (by kernel_rfl)) rfl
     rw [Q_X8_ (hon 8 (by kernel_rfl))]at e38
     replace ha:=Qz.k ha
     have HB:=Qz.k Q_HB
     have HE:=Qz.k Q_HE
     have HU:=Qz.k (Q_HU hb_)
     have F34:=Qz.k (Q_F34 (hon 4 (by kernel_rfl)))
     have F38:=Qz.k (Q_F38 (hon 8 (by kernel_rfl)) hb_)
     refine Kd.avq (Kd.int .u64) (w0:=W0) W0.heap.size (by rfl) (.tmp 35) (.tmp 38) 81 22 (.int .u64 0) 8 rfl Tryz.underlying81 bNq rfl (by decide) (by decide) u5 UL [x.f1] _ _ _ (fun _=>True) (fun _=>False) (apq e35) (apq e38) HU.out (int_one ((aak F38.out 0).trans rfl)) (fun _ _ h=>h) (fun _ h=>h.elim) (fun _ _=>trivial) HB.out HB.out.size (by have:=HUN.out;omega) ?_
     intro v0 w3 ho hb hg hat
     refine hK.out _ _ ⟨g33,v34,g38,v0,m3_,m8_,m10_,m11_,(by rw [ha.out];exact ajk 5 hb_ rfl rfl rfl),hb,(ark HE.out hg (Kd.R_ne HU.out HE.out (by decide))),fun h0_=>absurd ((hon 4 (by kernel_rfl)).symm.trans h0_) (by decide),fun h0_=>absurd ((aBq b 9).symm.trans h0_) (by decide),fun _ h1_=>absurd ((hon 4 (by kernel_rfl)).symm.trans h1_) (by decide),fun _=>(aLz F34.out HU.out hg (by decide)),fun _ h1_=>absurd ((aBq b 9).symm.trans h1_) (by decide),fun _=>ho,Q_X3_,Q_X8_,fun h0_=>absurd ((hoff 10 (by kernel_rfl)).symm.trans h0_) (by decide),fun h0_=>absurd ((hoff 11 (by kernel_rfl)).symm.trans h0_) (by decide)⟩
    refine ajz ?_ ?_
    ·rintro b a w' ⟨g33,v34,g38,v39,m3_,m8_,m10_,m11_,ha,Q_HB,Q_HE,Q_HT,Q_HU,Q_F33,Q_F34,Q_F38,Q_F39,Q_X3_,Q_X8_,Q_X10_,Q_X11_⟩ hb_ hon hoff
     refine⟨_,rfl,fun K hK=>?_⟩
     have e34:a.tmps[34]? = some (v34):=by rw [ha];exact alq (e:=(4,34,v34)) 2 rfl rfl (hon 4 (by kernel_rfl)) rfl
     replace ha:=Qz.k ha
     have HB:=Qz.k Q_HB
     have HE:=Qz.k Q_HE
     have F34:=Qz.k (Q_F34 (hon 4 (by kernel_rfl)))
     have F39:=Qz.k (Q_F39 (hon 9 (by kernel_rfl)))
     have hv34:=apq e34
     refine aAq (w1:=w') (v:=v34) (by rfl) rfl ?_ ?_
     ·go_simp
      (try simp only [abq])
      try rfl
     refine hK.out _ _ ⟨g33,v34,g38,v39,m3_,m8_,(v34),m11_,(by rw [ha.out];exact ajk 6 hb_ rfl rfl rfl),Q_HB,Q_HE,fun h0_=>absurd ((hon 4 (by kernel_rfl)).symm.trans h0_) (by decide),fun h0_=>absurd ((hon 9 (by kernel_rfl)).symm.trans h0_) (by decide),fun _ h1_=>absurd ((hon 4 (by kernel_rfl)).symm.trans h1_) (by decide),Q_F34,fun _ h1_=>absurd ((hon 9 (by kernel_rfl)).symm.trans h1_) (by decide),Q_F39,Q_X3_,Q_X8_,fun _=>rfl,fun h0_=>absurd ((hoff 11 (by kernel_rfl)).symm.trans h0_) (by decide)⟩
    refine ajz ?_ ?_
    ·rintro b a w' ⟨g33,v34,g38,v39,m3_,m8_,m10_,m11_,ha,Q_HB,Q_HE,Q_HT,Q_HU,Q_F33,Q_F34,Q_F38,Q_F39,Q_X3_,Q_X8_,Q_X10_,Q_X11_⟩ hb_ hon hoff
     refine⟨_,rfl,fun K hK=>?_⟩
     have e39:a.tmps[39]? = some (v39):=by rw [ha];exact alq (e:=(9,39,v39)) 5 rfl rfl (hon 9 (by kernel_rfl)) rfl
     replace ha:=Qz.k ha
     have HB:=Qz.k Q_HB
     have HE:=Qz.k Q_HE
     have F34:=Qz.k (Q_F34 (hon 4 (by kernel_rfl)))
     have F39:=Qz.k (Q_F39 (hon 9 (by kernel_rfl)))
     have hv39:=apq e39
     refine aAq (w1:=w') (v:=v39) (by rfl) rfl ?_ ?_
     ·go_simp
      (try simp only [abq])
      try rfl
     refine hK.out _ _ ⟨g33,v34,g38,v39,m3_,m8_,m10_,(v39),(by rw [ha.out];exact ajk 7 hb_ rfl rfl rfl),Q_HB,Q_HE,fun h0_=>absurd ((hon 4 (by kernel_rfl)).symm.trans h0_) (by decide),fun h0_=>absurd ((hon 9 (by kernel_rfl)).symm.trans h0_) (by decide),fun _ h1_=>absurd ((hon 4 (by kernel_rfl)).symm.trans h1_) (by decide),Q_F34,fun _ h1_=>absurd ((hon 9 (by kernel_rfl)).symm.trans h1_) (by decide),Q_F39,Q_X3_,Q_X8_,Q_X10_,fun _=>rfl⟩
    exact bbq
   rintro b a w' hall ⟨g33,v34,g38,v39,m3_,m8_,m10_,m11_,ha,Q_HB,Q_HE,Q_HT,Q_HU,Q_F33,Q_F34,Q_F38,Q_F39,Q_X3_,Q_X8_,Q_X10_,Q_X11_⟩
   clear HB HE HT HU
   have hb2_:=hall 2 (by kernel_rfl)
   have hb3_:=hall 3 (by kernel_rfl)
   have hb4_:=hall 4 (by kernel_rfl)
   have hb7_:=hall 7 (by kernel_rfl)
   have hb8_:=hall 8 (by kernel_rfl)
   have hb9_:=hall 9 (by kernel_rfl)
   have hb10_:=hall 10 (by kernel_rfl)
   have hb11_:=hall 11 (by kernel_rfl)
   subst ha
   obtain rfl:=Q_X3_ hb3_
   obtain rfl:=Q_X8_ hb8_
   obtain rfl:=Q_X10_ hb10_
   obtain rfl:=Q_X11_ hb11_
   simp only [awk,hb2_,hb3_,hb4_,hb7_,hb8_,hb9_,hb10_,hb11_,if_true,Act.put,List.setIfInBounds_toArray,List.set_cons_zero,List.set_cons_succ]
   have HB:=Qz.k Q_HB
   clear Q_HB
   have HE:=Qz.k Q_HE
   clear Q_HE
   clear Q_HT
   clear Q_HU
   clear Q_F33
   have F34:=Qz.k (Q_F34 hb4_)
   clear Q_F34
   clear Q_F38
   have F39:=Qz.k (Q_F39 hb9_)
   clear Q_F39
   clear hall hb2_ hb3_ hb4_ hb7_ hb8_ hb9_ hb10_ hb11_
   go_wp2
   rw [HTJ.out]at F34
   rw [HUJ.out]at F39
   go_roundg (l.length-(j+1))
   case measure=>exact(by omega)
   case rel=>
    (try rw [HW.out])
    exact⟨j+1,rfl,rfl,hlt,F34,F39,HB⟩
  ·have c5:decide ((j:Int)<(l.length:Int))=false:=decide_eq_false (by omega)
   have c6:decide (j<l.length)=false:=decide_eq_false hlt
   obtain rfl:j=l.length:=by omega
   rw [List.take_length]at HT HU
   obtain⟨At,ct,et⟩:=Kd.afz HT.out
   rw [List.length_map]at et
   subst et
   obtain⟨Au,cu,eu⟩:=Kd.afz HU.out
   rw [List.length_map]at eu
   subst eu
   have HTC:=Qz.k (Kd.ack HT.out).2
   have HUC:=Qz.k (Kd.ack HU.out).2
   rw [List.length_map]at HTC HUC
   clear HT HU
   go_wp2_with (fail)
   refine(HI.out _ At ct (aaz HW0.out HB.out) HTC.out.2 HTC.out.1).mono ?_
   rintro e W2 ⟨v2,rfl,ho,hb⟩
   obtain⟨Ai,ci,ei⟩:=Kd.afz ho
   subst ei
   have HIT:=Qz.k (Kd.ack ho).2
   replace HUC:=Qz.k (show _∧_ from⟨HUC.out.1,Kd.acz HUC.out.2 hb⟩)
   replace HB:=Qz.k (aaz HB.out hb)
   clear ho hb HTC HI
   go_wp2_with (fail)
   refine(HV.out _ Au cu (aaz HW0.out HB.out) HUC.out.2 HUC.out.1).mono ?_
   rintro e W3 ⟨v3,rfl,ho,hb⟩
   obtain⟨Av,cv,ev⟩:=Kd.afz ho
   subst ev
   have HVT:=Qz.k (Kd.ack ho).2
   replace HIT:=Qz.k (show _∧_ from⟨HIT.out.1,Kd.acz HIT.out.2 hb⟩)
   have HW3:=Qz.k (aaz HW0.out (aaz HB.out hb))
   have HY0:=Qz.k (abz (aaz HB.out hb) HZ0.out)
   have HY1:=Qz.k (abz (aaz HB.out hb) HZ1.out)
   replace HB:=Qz.k (Below.refl W3.heap.size W3)
   clear ho hb HUC HV HW0 HZ0 HZ1 HR0 hj hlt c5 c6
   have hq0:=HY0.out
   go_wp2_with (first
    |((with_reducible refine ahk (N:=51) rfl ?_);refine Kd.bwz (Kd.int .u8) (w0:=W3) W3.heap.size 5 ?hg (N:=51) ?hd (xs:=([1]:List Int)) (inner:=[.int .u8 1]) (ok:=fun _=>True) (okp:=fun _=>True) ?hr ?hp (fun _ hk=>hk) trivial HB.out HB.out.size (by simp) ?_;(case hd=>rfl);(case hg=>rfl);(case hr=>first|(go_simp;done)|(go_simp;rfl));(case hp=>exact⟨rfl,fun j p h=>by match j,h with | 0,h=>(simp only [List.getElem?_cons_zero,Option.some.injEq]at h;subst h;rfl)|j+1,h=>simp at h⟩);intro v_L1 W4 ho hb hg_ hnew_;obtain⟨L1,hL1⟩:∃ L_,([1]:List Int)=L_:=⟨_,rfl⟩;rw [hL1]at ho;have nL1:=Qz.k (show L1.length=1 from by rw [←hL1];rfl);have HL1:=Qz.k hL1;clear hL1;obtain⟨A_L1,c_L1,e_L1⟩:=Kd.afz ho;subst e_L1;have HO:=Qz.k ho;replace HB:=Qz.k hb;clear ho hb hg_ hnew_;have hq0:=abz HB.out HY0.out)
    |((with_reducible refine ahk (N:=54) rfl ?_);refine bhk rfl (.tmp 53) 9 27 5 rfl rfl Tryz.underlying9 Tryz.underlying27 Tryz.underlying5 (by have:=HS.out;omega) ?_;intro cc_ W5 hc hr hb;have HCC:=Qz.k hc;have HCR:=Qz.k hr;replace HO:=Qz.k (Kd.ahz HO.out hb);replace HB:=Qz.k (aaz HB.out hb);clear hc hr hb))
   refine(HBS.out W5 _ cc_ HCR.out HCC.out).mono ?_
   rintro e W6 ⟨v_,rfl,ho,hb⟩
   obtain⟨A_b,c_b,e_b⟩:=Kd.afz ho
   subst e_b
   have HS4:=Qz.k (Kd.ack ho).2.2
   replace HO:=Qz.k (Kd.ahz HO.out hb)
   replace HB:=Qz.k (aaz HB.out hb)
   clear ho hb HCC HCR
   (try clear hq0)
   go_wp2_with (first
    |((with_reducible refine agk (b := .append) (xs:=#[.tmp 51,.tmp 55]) rfl ?_);at_builtin;refine Kd.ahq (Kd.int .u8) (w0:=W3) W3.heap.size rfl (.tmp 51) (.tmp 55) 27 5 (.int .u8 0) 1 rfl Tryz.underlying27 info5 rfl (by decide) (by omega) (.slice A_L1 L1.length c_L1) L1 BS _ _ _ (fun _=>True) (fun _=>False) rfl rfl HO.out (HS4.out) (fun _ _ h=>h) (fun _ h=>h.elim) (fun _ _=>trivial) (HB.out) (Below.size (HB.out)) (by have:=nL1.out;have:=HBL.out;omega) ?_;intro v_L2 W7 ho hb hg hat;obtain⟨L2,hL2⟩:∃ L_,L1++BS=L_:=⟨_,rfl⟩;rw [hL2]at ho;have nL2:=Qz.k (show L2.length≤66 from by rw [←hL2,List.length_append];have:=nL1.out;have:=HBL.out;omega);have HL2:=Qz.k hL2;clear hL2;obtain⟨A_L2,c_L2,e_L2⟩:=Kd.afz ho;subst e_L2;replace HO:=Qz.k ho;replace HB:=Qz.k hb;clear ho hb hg hat;have hq1:=abz HB.out HY1.out))
   have e3:(((l.length:Int)).toNat)=l.length:=Int.toNat_natCast _
   rw [HWV.out]
   refine(aRq A_L2 c_L2 L2 (l.length:Int) W7 (Kd.ack HO.out).2.2 (Kd.ack HO.out).2.1 (by have:=nL2.out;omega) (by omega) (by have:=HLL.out;omega)).mono ?_
   rintro e W8 ⟨v8,rfl,ho,hb⟩
   rw [e3]at ho
   obtain⟨L3,hL3⟩:∃ L_,L2++vn l.length=L_:=⟨_,rfl⟩
   rw [hL3]at ho
   have nL3:=Qz.k (show L3.length≤76 from by rw [←hL3,List.length_append];have:=nL2.out;have:=nVN.out;omega)
   have HL3:=Qz.k hL3
   obtain⟨A_L3,c_L3,e_L3⟩:=Kd.afz ho
   subst e_L3
   replace HO:=Qz.k (Kd.aiq ho HB.out.size)
   replace HB:=Qz.k (aaz HB.out hb)
   clear ho hb hL3 HS4 e3
   (try clear hq1)
   go_wp2_with (fail)
   refine(HBT.out W8 Ai ci (Kd.acz HIT.out.2 HB.out) HIT.out.1).mono ?_
   rintro e W9 ⟨v_,rfl,ho,hb⟩
   obtain⟨A_b,c_b,e_b⟩:=Kd.afz ho
   subst e_b
   have HS4:=Qz.k (Kd.ack ho).2.2
   replace HO:=Qz.k (Kd.ahz HO.out hb)
   replace HB:=Qz.k (aaz HB.out hb)
   clear ho hb
   go_wp2_with (first
    |((with_reducible refine agk (b := .append) (xs:=#[.tmp 63,.tmp 65]) rfl ?_);at_builtin;refine Kd.ahq (Kd.int .u8) (w0:=W3) W3.heap.size rfl (.tmp 63) (.tmp 65) 27 5 (.int .u8 0) 1 rfl Tryz.underlying27 info5 rfl (by decide) (by omega) (.slice A_L3 L3.length c_L3) L3 BT _ _ _ (fun _=>True) (fun _=>False) rfl rfl HO.out (HS4.out) (fun _ _ h=>h) (fun _ h=>h.elim) (fun _ _=>trivial) (HB.out) (Below.size (HB.out)) (by have:=nL3.out;have:=nBT.out;omega) ?_;intro v_L4 W10 ho hb hg hat;obtain⟨L4,hL4⟩:∃ L_,L3++BT=L_:=⟨_,rfl⟩;rw [hL4]at ho;have nL4:=Qz.k (show L4.length≤8376 from by rw [←hL4,List.length_append];have:=nL3.out;have:=nBT.out;omega);have HL4:=Qz.k hL4;clear hL4;obtain⟨A_L4,c_L4,e_L4⟩:=Kd.afz ho;subst e_L4;replace HO:=Qz.k ho;replace HB:=Qz.k hb;clear ho hb hg hat))
   clear HS4
   refine(HBV.out W10 Av cv (Kd.acz HVT.out.2 HB.out) HVT.out.1).mono ?_
   rintro e W11 ⟨v_,rfl,ho,hb⟩
   obtain⟨A_b2,c_b2,e_b⟩:=Kd.afz ho
   subst e_b
   have HS4:=Qz.k (Kd.ack ho).2.2
   replace HO:=Qz.k (Kd.ahz HO.out hb)
   replace HB:=Qz.k (aaz HB.out hb)
   clear ho hb
   go_wp2_with (first
    |((with_reducible refine agk (b := .append) (xs:=#[.tmp 67,.tmp 69]) rfl ?_);at_builtin;refine Kd.ahq (Kd.int .u8) (w0:=W3) W3.heap.size rfl (.tmp 67) (.tmp 69) 27 5 (.int .u8 0) 1 rfl Tryz.underlying27 info5 rfl (by decide) (by omega) (.slice A_L4 L4.length c_L4) L4 BV _ _ _ (fun _=>True) (fun _=>False) rfl rfl HO.out (HS4.out) (fun _ _ h=>h) (fun _ h=>h.elim) (fun _ _=>trivial) (HB.out) (Below.size (HB.out)) (by have:=nL4.out;have:=nBV.out;omega) ?_;intro v_LF W12 ho hb hg hat;obtain⟨LF,hLF⟩:∃ L_,L4++BV=L_:=⟨_,rfl⟩;rw [hLF]at ho;have nLF:=Qz.k (show True from by trivial);have HLF:=Qz.k hLF;clear hLF;obtain⟨A_LF,c_LF,e_LF⟩:=Kd.afz ho;subst e_LF;replace HO:=Qz.k ho;replace HB:=Qz.k hb;clear ho hb hg hat))
   go_ret2
   have hfin:LF=RES:=by rw [←HLF.out,←HL4.out,←HL3.out,←HL2.out,←HL1.out,←HFIN.out]
   subst hfin
   exact⟨_,rfl,Kd.aiq HO.out HW3.out.size,aaz HW3.out HB.out⟩
theorem stepV_le (wf:Nat→List Int×Int)(N:Nat)(s:Int×List Int)(t:Nat)(ht:t<4)(hs:s.1≠4∧s.2.length≤N):(blz wf s t).1≠4∧(blz wf s t).2.length≤N:=by
 unfold blz
 rw [if_neg hs.1]
 split
 ·exact⟨by dsimp only;omega,by dsimp only;omega⟩
 ·exact hs
theorem foldl_le (wf:Nat→List Int×Int)(N:Nat):∀ (ts:List Nat) (s:Int×List Int),(∀ t∈ts,t<4)→s.1≠4∧s.2.length≤N→(ts.foldl (blz wf) s).2.length≤N
 | [],s,_,hs=>hs.2
 |t :: ts,s,h,hs=>foldl_le wf N ts _ (fun x hx=>h x (List.mem_cons_of_mem _ hx)) (stepV_le wf N s t (h t List.mem_cons_self) hs)
theorem fold_le (wf:Nat→List Int×Int)(h0:(wf 0).2=0):(bdq wf (okT wf 4)).2.length≤(wf 0).1.length:=by
 have e:okT wf 4=0 :: ([1,2,3].filter fun t=>decide ((wf t).2=0)):=by
  rw [okT,show List.range 4=[0,1,2,3]from rfl,List.filter_cons,if_pos (by simp [h0])]
 rw [e,bdq,List.foldl_cons]
 have e1:blz wf (4,[]) 0=(0,(wf 0).1):=by simp [blz]
 rw [e1]
 refine foldl_le wf _ _ _ (fun t ht=>?_) ⟨show(0:Int)≠4 by decide,Nat.le_refl _⟩
 have:=(List.mem_filter.1 ht).1
 simp at this
 omega
theorem vals_ex (l:List Int)(hl:l.length≤65536)(hu:U6 l):∃ r:List Int,r.length≤8*l.length+1∧∀ (w:World) (A:Option Addr) (c:Nat),Tab w→Kd.C (Kd.int .u64) w A l.length l→l.length≤c →
  Calls Tryz.prog 42 #[.slice A l.length c] w fun e w'=>∃ v,e=.returned (.tuple #[v,.int .i64 0])∧Kd.R (Kd.int .u8) 5 w' w.heap.size (fun _=>True) v r∧Below w.heap.size w w':=by
 have hex:∀ t:Nat,∃ p:List Int×Int,t<4→Evn (fun k=>valcodec_Way.f k l (t:Int)) p∧(t=0→p.2=0∧p.1.length=8*l.length):=fun t=>by
  by_cases ht:t<4
  ·obtain⟨r,e,h,h0⟩:=vway_ex l hl hu (t:Int) (by omega) (by omega)
   exact⟨(r,e),fun _=>⟨h,fun h1=>h0 (by omega)⟩⟩
  ·exact⟨([],0),fun h=>absurd h ht⟩
 obtain⟨wf,hwf⟩:=Classical.axiomOfChoice hex
 have h0:=(hwf 0 (by decide)).2 rfl
 have hle:=fold_le wf h0.1
 rw [h0.2]at hle
 refine⟨vencOf wf,by rw [vencOf,List.length_append];simp;omega,fun w A c hT hC hc=>?_⟩
 refine(callsIn_wide (n:=4)).1 (VEncode_in Fence.wide 4 (fun _=>trivial) rfl (Nat.le_refl _) wf A c l w hl hle fun t ht w1 hb=>(callsIn_wide (n:=2)).2 ?_)
 obtain⟨k,hk⟩:=(hwf t ht).1.get
 exact valcodec_Way.calls k A c l (t:Int) (wf t).1 (wf t).2 w1 (Kd.acz hC hb) hc hk (Tab.below hT hb)
theorem chunk_ex (x:S43)(h3:x.f0.size=3)(hl:x.f1.length<64)(hu:U6 (x.f1.map S56.f1)):∃ E:List Int,E.length≤4194300∧∀ (w:World) (A:Option Addr) (c:Nat),Tab w→Kd.C k56 w A x.f1.length x.f1→x.f1.length≤c →
  Calls Tryz.prog 14 #[.agg #[.string x.f0,.slice A x.f1.length c]] w fun e w'=>∃ v,e=.returned (.tuple #[v,.int .i64 0])∧Kd.R (Kd.int .u8) 5 w' w.heap.size (fun _=>True) v E∧Below w.heap.size w w':=by
 have hlt:(x.f1.map S56.f0).length=x.f1.length:=List.length_map _
 have hlv:(x.f1.map S56.f1).length=x.f1.length:=List.length_map _
 obtain⟨rt,hrt,hrtl⟩:=ints_ex (x.f1.map S56.f0) (by omega)
 obtain⟨rv,hrvl,hrv⟩:=vals_ex (x.f1.map S56.f1) (by omega) hu
 rw [hlt]at hrtl
 rw [hlv]at hrvl hrv
 obtain⟨k,hk⟩:=hrt.get
 refine⟨bQz x.f0 x.f1.length rt rv,?_,fun w A c hT hC hc=>chunk_Encode.calls rt rv x.f0 A c x.f1 w (by omega) hC hc (by omega) hrtl hrvl (fun W A1 c1 hb hr hc1=>?_) (fun W A1 c1 hb hr hc1=>hrv W A1 c1 (Tab.below hT hb) hr hc1)⟩
 ·have h1:=avk x.f1.length (by omega)
  have h2:=avk rt.length (by omega)
  have h4:=avk rv.length (by omega)
  have h5:=aKq (sB x.f0) (by rw [aCk];omega)
  rw [aCk]at h5
  have h6:(avz rt).length=(vn rt.length).length+rt.length:=by rw [avz,List.length_append]
  have h7:(avz rv).length=(vn rv.length).length+rv.length:=by rw [avz,List.length_append]
  simp only [bQz,List.length_append,List.length_singleton,h5,h6,h7]
  omega
 ·have:=intcodec_Encode.calls k A1 c1 (x.f1.map S56.f0) rt 0 W (by rw [hlt];exact hr) (by rw [hlt];exact hc1) hk
  rwa [hlt]at this
theorem duo_facts {m:Nat}(hm:m<64){x y:S43}(h:Duo m x y):(x.f0.size=3∧y.f0.size=3)∧(x.f1.length<64∧y.f1.length<64)∧(U6 (x.f1.map S56.f1)∧U6 (y.f1.map S56.f1))∧kyS x.f0≠kyS y.f0∧Op.bytesLess y.f0.toList x.f0.toList=false:=by
 rcases h with⟨⟨a1,a2,a3⟩,b1,b2,b3⟩|⟨⟨a1,a2,a3⟩,b1,b2,b3⟩
 ·refine⟨⟨by rw [a1];rfl,by rw [b1];rfl⟩,⟨by omega,by omega⟩,⟨a3,b3⟩,?_,?_⟩
  ·rw [a1,b1]
   intro e
   injection e with e
   exact absurd e (by decide +kernel)
  ·rw [a1,b1]
   decide +kernel
 ·refine⟨⟨by rw [a1];rfl,by rw [b1];rfl⟩,⟨by omega,by omega⟩,⟨a3,b3⟩,?_,?_⟩
  ·rw [a1,b1]
   intro e
   injection e with e
   exact absurd e (by decide +kernel)
  ·rw [a1,b1]
   decide +kernel
theorem root2_calls (a b:List Int)(A:Option Addr)(c:Nat)(w:World)(hr:Kd.C (Kd.slice 5 (Kd.int .u8)) w A 2 [a,b])(hc:2≤c)(ha:a.length<16777216)(hb:b.length<16777216)(hT:Tab w) :
  Calls Tryz.prog 23 #[.slice A 2 c] w fun e w'=>∃ (A':Option Addr) (c':Nat) (T:List Int),e=.returned (.slice A' 32 c')∧32≤c'∧T.length=32∧Kd.C (Kd.int .u8) w' A' 32 T∧Below w.heap.size w w':=by
 have h:=archive_rootOf (a8z (aVz a) (aVz b)) A c [a,b] w hr (by simp) (fun x hx=>by
  simp only [List.mem_cons,List.not_mem_nil,or_false]at hx
  rcases hx with rfl|rfl <;> omega) (fun w1 A1 c1 hb1 hr1 hc1=>merkle_Root2.calls A1 c1 (aVz a) (aVz b) w1 hr1 hc1 (by rw [b0k];decide) (by rw [b0k];decide) (Tab.below hT hb1))
 refine h.mono ?_
 rintro e w' ⟨A',c',rfl,h1,h2,h3⟩
 exact⟨A',c',_,rfl,h1,bxk _ _,h2,h3⟩
theorem build2 (enc:S43→List Int)(m:Nat)(hm:m<64)(x y:S43)(hd:Duo m x y)(henc:∀ z∈[x,y],(enc z).length≤4194300∧∀ (w:World) (A:Option Addr) (c:Nat),Tab w→Kd.C k56 w A z.f1.length z.f1→z.f1.length≤c →
   Calls Tryz.prog 14 #[.agg #[.string z.f0,.slice A z.f1.length c]] w fun e w'=>∃ v,e=.returned (.tuple #[v,.int .i64 0])∧Kd.R (Kd.int .u8) 5 w' w.heap.size (fun _=>True) v (enc z)∧Below w.heap.size w w')
  (A0:Option Addr) (c0:Nat) (key:List Int) (A3:Option Addr) (c3:Nat) (w:World) (hr0:Kd.C (Kd.int .u8) w A0 key.length key) (hc0:key.length≤c0) (hk:key.length=32) (hr1:Kd.C k43 w A3 2 [x,y]) (hT:Tab w) :
  Calls Tryz.prog 8 #[.slice A0 key.length c0,.agg #[.int .u64 0,.slice none 0 0],.int .u64 1,.slice A3 2 c3] w fun e w'=>∃ (v:Value) (A':Option Addr) (c':Nat) (O:List Int),e=.returned (.tuple #[v,.agg #[.int .u64 1,.slice A' 32 c'],.int .i64 0])∧O.length=123+(ayq enc x+ayq enc y)∧Kd.R (Kd.int .u8) 5 w' w.heap.size (fun _=>True) v O∧Below w.heap.size w w':=by
 obtain⟨hs,hln,hu,hne,hlt⟩:=duo_facts hm hd
 have hx:=henc x (by simp)
 have hy:=henc y (by simp)
 have hEnt:∀ z:S43,z.f0.size=3→(enc z).length≤4194300→EntR (aWk enc z):=fun z h3 h4=>by
  have hb:=aXk ((enc z).length:Int) (by omega) (by omega)
  exact⟨by show z.f0.size≤64;omega,hb.2.1,hb.2.2.1⟩
 refine(archive_Build.calls enc (fun T=>T.length=32) (fun T r=>r.length=90) A0 c0 key 1 A3 c3 [x,y] w hr0 hc0 hk ⟨by decide,by decide⟩ hr1 (by simp) (fun z hz=>?_) (fun z hz=>(henc z hz).1)
  (fun z hz w1 A c hb hr hc=>(henc z hz).2 w1 A c (Tab.below hT hb) hr hc) (fun W A c ss hb hml hr hc=>?_) (fun T r h=>by omega) (fun W A1 A2 A4 c1 c2 c4 T hPT hb h1 h2 h4=>?_)).mono ?_
 ·simp only [List.mem_cons,List.not_mem_nil,or_false]at hz
  rcases hz with rfl|rfl
  ·exact hs.1
  ·exact hs.2
 ·match ss,hml,hr,hc with
  | [a,b],hml,hr,hc=>
   simp only [List.map_cons,List.map_nil,List.cons.injEq,and_true]at hml
   exact root2_calls a b A c W hr hc (by rw [hml.1];exact bIz enc x hx.1) (by rw [hml.2];exact bIz enc y hy.1) (Tab.below hT hb)
  | [],hml,_,_=>simp at hml
  | [_],hml,_,_=>simp at hml
  | _ :: _ :: _ :: _,hml,_,_=>simp at hml
 ·exact manifest_Encode2.calls 1 A1 c1 (List.replicate 32 0) A2 c2 (aWk enc x) (aWk enc y) A4 c4 T W ⟨by decide,by decide⟩ h1 h2 h4 (hEnt x hs.1 hx.1) (hEnt y hs.2 hy.1) hs.1 hs.2 hne hlt
 ·rintro e w' ⟨v,T,r,ss,A',c',rfl,hPT,hr,hml,hR,hC,hc,hb⟩
  refine⟨v,A',c',_,rfl,?_,hR,hb⟩
  match ss,hml with
  | [a,b],hml=>
   simp only [List.map_cons,List.map_nil,List.cons.injEq,and_true]at hml
   have h1:(r++aDz (derived key 4 aEz) [r]).length=122:=by rw [List.length_append,aGq,hr]
   rw [List.length_append,aKq _ (by omega),h1,bEk]
   show 123+((0+a.length)+b.length)=_
   omega
  | [],hml=>simp at hml
  | [_],hml=>simp at hml
  | _ :: _ :: _ :: _,hml=>simp at hml
def caskettop_TopSizes.Pure : Prop:=True
def EncOk (enc:S43→List Int)(z:S43):Prop:=(enc z).length≤4194300∧∀ (w:World) (A:Option Addr) (c:Nat),Tab w→Kd.C k56 w A z.f1.length z.f1→z.f1.length≤c →
   Calls Tryz.prog 14 #[.agg #[.string z.f0,.slice A z.f1.length c]] w fun e w'=>∃ v,e=.returned (.tuple #[v,.int .i64 0])∧Kd.R (Kd.int .u8) 5 w' w.heap.size (fun _=>True) v (enc z)∧Below w.heap.size w w'
theorem enc_ex : ∃ enc:S43→List Int,∀ z:S43,z.f0.size=3→z.f1.length<64→U6 (z.f1.map S56.f1)→EncOk enc z:=by
 have hex:∀ z:S43,∃ E:List Int,z.f0.size=3→z.f1.length<64→U6 (z.f1.map S56.f1)→E.length≤4194300∧∀ (w:World) (A:Option Addr) (c:Nat),Tab w→Kd.C k56 w A z.f1.length z.f1→z.f1.length≤c →
   Calls Tryz.prog 14 #[.agg #[.string z.f0,.slice A z.f1.length c]] w fun e w'=>∃ v,e=.returned (.tuple #[v,.int .i64 0])∧Kd.R (Kd.int .u8) 5 w' w.heap.size (fun _=>True) v E∧Below w.heap.size w w':=fun z=>by
  by_cases h:z.f0.size=3∧z.f1.length<64∧U6 (z.f1.map S56.f1)
  ·obtain⟨E,h1,h2⟩:=chunk_ex z h.1 h.2.1 h.2.2
   exact⟨E,fun _ _ _=>⟨h1,h2⟩⟩
  ·exact⟨[],fun a b c=>absurd ⟨a,b,c⟩ h⟩
 obtain⟨f,hf⟩:=Classical.axiomOfChoice hex
 exact⟨f,hf⟩
theorem duo_enc {enc:S43→List Int}(he:∀ z:S43,z.f0.size=3→z.f1.length<64→U6 (z.f1.map S56.f1)→EncOk enc z){m:Nat}(hm:m<64){x y:S43}(h:Duo m x y):EncOk enc x∧EncOk enc y:=by
 obtain⟨a,b,c,_⟩:=duo_facts hm h
 exact⟨he x a.1 b.1 c.1,he y a.2 b.2 c.2⟩
theorem bvq {n:Nat}(h:n≤4194300)(w:World):Calls Tryz.prog 15 #[.int .i64 (n:Int)] w fun e w'=>e=.returned (.tuple #[.int .i64 (arz (n:Int)).1,.int .i64 0])∧Below w.heap.size w w':=by
 have hb:=aXk (n:Int) (by omega) (by omega)
 have:=pad_Bucket.calls (n:Int) (arz (n:Int)).1 (arz (n:Int)).2 w rfl
 rw [hb.1]at this
 exact this
set_option maxHeartbeats 8000000 in
theorem caskettop_TopSizes.walk (P:caskettop_TopSizes.Pure)(a0:Int)(a1:Int)(a2:Int)(w:World)(w0:(Lit.int .i64 a0).wf=true)(w1:(Lit.int .i64 a1).wf=true)(w2:(Lit.int .i64 a2).wf=true)(hT:Tab w) :
  Calls Tryz.prog 4 #[.int .i64 a0,.int .i64 a1,.int .i64 a2] w fun e w'=>e=.returned (.bool true)∧Below w.heap.size w w':=by
 obtain⟨enc,henc⟩:=enc_ex
 obtain⟨m,em,hm⟩:∃ m:Nat,Go.bits .and .i64 a1 63=(m:Int)∧m<64:=⟨(a1%64).toNat,by rw [and_63];omega,by omega⟩
 obtain⟨p,ep,hp⟩:∃ p:Nat,Go.bits .and .i64 a2 63=(p:Int)∧p<64:=⟨(a2%64).toNat,by rw [and_63];omega,by omega⟩
 obtain⟨s,es⟩:∃ s,Go.bits .and .i64 a0 1023=s:=⟨_,rfl⟩
 obtain⟨x,y,hd,hxy⟩:=chunks_ex m hm s
 obtain⟨x2,y2,hd2,hxy2⟩:=chunks_ex p hp s
 obtain⟨K,nK,hK⟩:=key_ex a0
 have he:=duo_enc henc hm hd
 have he2:=duo_enc henc hp hd2
 have EM:=Qz.k em
 have EP:=Qz.k ep
 have ES:=Qz.k es
 have HXY:=Qz.k hxy
 have HXY2:=Qz.k hxy2
 have HKY:=Qz.k hK
 have NK:=Qz.k nK
 have HT:=Qz.k hT
 have HB1:=Qz.k (fun(A0:Option Addr) (c0:Nat) (A3:Option Addr) (c3:Nat) (W:World) (hr0:Kd.C (Kd.int .u8) W A0 K.length K) (hc0:K.length≤c0) (hr1:Kd.C k43 W A3 2 [x,y]) (hb:Below w.heap.size w W)=>build2 enc m hm x y hd (fun z hz=>by
  simp only [List.mem_cons,List.not_mem_nil,or_false]at hz
  rcases hz with rfl|rfl
  ·exact he.1
  ·exact he.2) A0 c0 K A3 c3 W hr0 hc0 nK hr1 (Tab.below hT hb))
 have HB2:=Qz.k (fun(A0:Option Addr) (c0:Nat) (A3:Option Addr) (c3:Nat) (W:World) (hr0:Kd.C (Kd.int .u8) W A0 K.length K) (hc0:K.length≤c0) (hr1:Kd.C k43 W A3 2 [x2,y2]) (hb:Below w.heap.size w W)=>build2 enc p hp x2 y2 hd2 (fun z hz=>by
  simp only [List.mem_cons,List.not_mem_nil,or_false]at hz
  rcases hz with rfl|rfl
  ·exact he2.1
  ·exact he2.2) A0 c0 K A3 c3 W hr0 hc0 nK hr1 (Tab.below hT hb))
 have HLN:∀ z:S43,ayq enc z=(aOz (arz ((enc z).length:Int)).1).toNat+16:=fun z=>rfl
 obtain⟨Ex,hEx⟩:∃ E_,enc x=E_:=⟨_,rfl⟩
 obtain⟨Bx,hBx⟩:∃ B_,(arz ((enc x).length:Int)).1=B_:=⟨_,rfl⟩
 have HLx:=Qz.k (show ayq enc x=(aOz Bx).toNat+16 from by rw [HLN,hBx])
 have HECx:=Qz.k he.1.2
 rw [hEx]at HECx
 have HBKx:=Qz.k (fun W:World=>bvq he.1.1 W)
 rw [hBx,hEx]at HBKx
 clear hEx hBx
 obtain⟨Ey,hEy⟩:∃ E_,enc y=E_:=⟨_,rfl⟩
 obtain⟨By,hBy⟩:∃ B_,(arz ((enc y).length:Int)).1=B_:=⟨_,rfl⟩
 have HLy:=Qz.k (show ayq enc y=(aOz By).toNat+16 from by rw [HLN,hBy])
 have HECy:=Qz.k he.2.2
 rw [hEy]at HECy
 have HBKy:=Qz.k (fun W:World=>bvq he.2.1 W)
 rw [hBy,hEy]at HBKy
 clear hEy hBy
 obtain⟨Ex2,hEx2⟩:∃ E_,enc x2=E_:=⟨_,rfl⟩
 obtain⟨Bx2,hBx2⟩:∃ B_,(arz ((enc x2).length:Int)).1=B_:=⟨_,rfl⟩
 have HLx2:=Qz.k (show ayq enc x2=(aOz Bx2).toNat+16 from by rw [HLN,hBx2])
 have HECx2:=Qz.k he2.1.2
 rw [hEx2]at HECx2
 have HBKx2:=Qz.k (fun W:World=>bvq he2.1.1 W)
 rw [hBx2,hEx2]at HBKx2
 clear hEx2 hBx2
 obtain⟨Ey2,hEy2⟩:∃ E_,enc y2=E_:=⟨_,rfl⟩
 obtain⟨By2,hBy2⟩:∃ B_,(arz ((enc y2).length:Int)).1=B_:=⟨_,rfl⟩
 have HLy2:=Qz.k (show ayq enc y2=(aOz By2).toNat+16 from by rw [HLN,hBy2])
 have HECy2:=Qz.k he2.2.2
 rw [hEy2]at HECy2
 have HBKy2:=Qz.k (fun W:World=>bvq he2.2.1 W)
 rw [hBy2,hEy2]at HBKy2
 clear hEy2 hBy2
 clear em ep es hxy hxy2 hK nK hT he he2 hd hd2 hm hp henc w0 w1 w2 P HLN
 go_enter Tryz.func4,Tryz.ntmps4
 go_wp2_with (fail)
 refine(awake_calls w).mono ?_
 rintro e W1 ⟨rfl,hb⟩
 have HB:=Qz.k hb
 clear hb
 go_wp2_with (fail)
 rw [EM.out,ES.out]
 refine(HXY.out W1).mono ?_
 rintro e W2 ⟨AX,cX,rfl,ho,hb⟩
 have HX:=Qz.k ho
 replace HB:=Qz.k (aaz HB.out hb)
 clear ho hb
 go_wp2_with (fail)
 rw [EP.out,ES.out]
 refine(HXY2.out W2).mono ?_
 rintro e W3 ⟨AY,cY,rfl,ho,hb⟩
 have HY:=Qz.k ho
 replace HX:=Qz.k (Kd.acz HX.out hb)
 replace HB:=Qz.k (aaz HB.out hb)
 clear ho hb HXY HXY2
 go_wp2_with (fail)
 refine(HKY.out W3).mono ?_
 rintro e W4 ⟨v_,rfl,ho,hb⟩
 obtain⟨Ak,ck,ek⟩:=Kd.afz ho
 subst ek
 have HK:=Qz.k (Kd.ack ho).2
 replace HX:=Qz.k (Kd.acz HX.out hb)
 replace HY:=Qz.k (Kd.acz HY.out hb)
 replace HB:=Qz.k (aaz HB.out hb)
 clear ho hb
 go_wp2_with (fail)
 refine(HB1.out Ak ck AX cX W4 HK.out.2 HK.out.1 HX.out HB.out).mono ?_
 rintro e W5 ⟨v_,RP,rP,OP,rfl,hl,ho,hb⟩
 obtain⟨AP,cP,e_⟩:=Kd.afz ho
 subst e_
 have NP:=Qz.k (show OP.length=123+(((aOz Bx).toNat+16)+((aOz By).toNat+16))from by rw [hl,HLx.out,HLy.out])
 replace HX:=Qz.k (Kd.acz HX.out hb)
 replace HY:=Qz.k (Kd.acz HY.out hb)
 replace HB:=Qz.k (aaz HB.out hb)
 clear ho hb hl HK
 have hb:=aaq (Below.refl W5.heap.size W5) (.cells #[.int .u64 1,.slice RP 32 rP] 29)
 obtain⟨W6,hW_⟩:∃ W_,W5.alloc (.cells #[.int .u64 1,.slice RP 32 rP] 29)=W_:=⟨_,rfl⟩
 rw [hW_]at hb
 go_wp2_with (fail)
 (try rw [hW_])
 replace HX:=Qz.k (Kd.acz HX.out hb)
 replace HY:=Qz.k (Kd.acz HY.out hb)
 replace HB:=Qz.k (aaz HB.out hb)
 clear hb hW_
 skip
 refine(HKY.out W6).mono ?_
 rintro e W7 ⟨v_,rfl,ho,hb⟩
 obtain⟨Ak,ck,ek⟩:=Kd.afz ho
 subst ek
 have HK:=Qz.k (Kd.ack ho).2
 replace HX:=Qz.k (Kd.acz HX.out hb)
 replace HY:=Qz.k (Kd.acz HY.out hb)
 replace HB:=Qz.k (aaz HB.out hb)
 clear ho hb
 go_wp2_with (fail)
 refine(HB2.out Ak ck AY cY W7 HK.out.2 HK.out.1 HY.out HB.out).mono ?_
 rintro e W8 ⟨v_,RQ,rQ,OQ,rfl,hl,ho,hb⟩
 obtain⟨AQ,cQ,e_⟩:=Kd.afz ho
 subst e_
 have NQ:=Qz.k (show OQ.length=123+(((aOz Bx2).toNat+16)+((aOz By2).toNat+16))from by rw [hl,HLx2.out,HLy2.out])
 replace HX:=Qz.k (Kd.acz HX.out hb)
 replace HY:=Qz.k (Kd.acz HY.out hb)
 replace HB:=Qz.k (aaz HB.out hb)
 clear ho hb hl HK
 have hb:=aaq (Below.refl W8.heap.size W8) (.cells #[.int .u64 1,.slice RQ 32 rQ] 29)
 obtain⟨W9,hW_⟩:∃ W_,W8.alloc (.cells #[.int .u64 1,.slice RQ 32 rQ] 29)=W_:=⟨_,rfl⟩
 rw [hW_]at hb
 go_wp2
 (try rw [hW_])
 replace HX:=Qz.k (Kd.acz HX.out hb)
 replace HY:=Qz.k (Kd.acz HY.out hb)
 replace HB:=Qz.k (aaz HB.out hb)
 clear hb hW_
 clear HKY HB1 HB2 NK EM EP ES
 refine wp_loop_rounds 3 ?_
 rw [rounds_succ]
 obtain⟨adX_,Az,cz,e_,hq0,hq1,hle,hC⟩:=bQk HX.out 0 (by decide) (by decide)
 subst e_
 replace hq0:W9.cell? adX_=some (.string x.f0):=hq0
 replace hq1:W9.cell? ⟨adX_.block,adX_.off+1,none⟩=some (.slice Az x.f1.length cz):=hq1
 go_wp2_with (fail)
 refine(HECx.out W9 Az cz (Tab.below HT.out HB.out) hC hle).mono ?_
 rintro e W10 ⟨v_,rfl,ho,hb⟩
 obtain⟨Aex,cex,e_⟩:=Kd.afz ho
 subst e_
 replace HX:=Qz.k (Kd.acz HX.out hb)
 replace HY:=Qz.k (Kd.acz HY.out hb)
 replace HB:=Qz.k (aaz HB.out hb)
 clear ho hb hq0 hq1 hle hC
 obtain⟨adY_,Az,cz,e_,hq0,hq1,hle,hC⟩:=bQk HY.out 0 (by decide) (by decide)
 subst e_
 replace hq0:W10.cell? adY_=some (.string x2.f0):=hq0
 replace hq1:W10.cell? ⟨adY_.block,adY_.off+1,none⟩=some (.slice Az x2.f1.length cz):=hq1
 go_wp2_with (fail)
 refine(HECx2.out W10 Az cz (Tab.below HT.out HB.out) hC hle).mono ?_
 rintro e W11 ⟨v_,rfl,ho,hb⟩
 obtain⟨Aex2,cex2,e_⟩:=Kd.afz ho
 subst e_
 replace HX:=Qz.k (Kd.acz HX.out hb)
 replace HY:=Qz.k (Kd.acz HY.out hb)
 replace HB:=Qz.k (aaz HB.out hb)
 clear ho hb hq0 hq1 hle hC
 go_wp2_with (fail)
 refine(HBKx.out W11).mono ?_
 rintro e W12 ⟨rfl,hb⟩
 replace HX:=Qz.k (Kd.acz HX.out hb)
 replace HY:=Qz.k (Kd.acz HY.out hb)
 replace HB:=Qz.k (aaz HB.out hb)
 clear hb
 go_wp2_with (fail)
 refine(HBKx2.out W12).mono ?_
 rintro e W13 ⟨rfl,hb⟩
 replace HX:=Qz.k (Kd.acz HX.out hb)
 replace HY:=Qz.k (Kd.acz HY.out hb)
 replace HB:=Qz.k (aaz HB.out hb)
 clear hb
 by_cases h1:Bx=Bx2
 ·subst h1
  go_wp2
  rw [rounds_succ]
  obtain⟨adX_,Az,cz,e_,hq0,hq1,hle,hC⟩:=bQk HX.out 1 (by decide) (by decide)
  injection e_ with e_
  subst e_
  replace hq0:W13.cell? ⟨adX_.block,adX_.off+2,none⟩=some (.string y.f0):=hq0
  replace hq1:W13.cell? ⟨adX_.block,adX_.off+2+1,none⟩=some (.slice Az y.f1.length cz):=hq1
  go_wp2_with (fail)
  refine(HECy.out W13 Az cz (Tab.below HT.out HB.out) hC hle).mono ?_
  rintro e W14 ⟨v_,rfl,ho,hb⟩
  obtain⟨Aey,cey,e_⟩:=Kd.afz ho
  subst e_
  replace HX:=Qz.k (Kd.acz HX.out hb)
  replace HY:=Qz.k (Kd.acz HY.out hb)
  replace HB:=Qz.k (aaz HB.out hb)
  clear ho hb hq0 hq1 hle hC
  obtain⟨adY_,Az,cz,e_,hq0,hq1,hle,hC⟩:=bQk HY.out 1 (by decide) (by decide)
  injection e_ with e_
  subst e_
  replace hq0:W14.cell? ⟨adY_.block,adY_.off+2,none⟩=some (.string y2.f0):=hq0
  replace hq1:W14.cell? ⟨adY_.block,adY_.off+2+1,none⟩=some (.slice Az y2.f1.length cz):=hq1
  go_wp2_with (fail)
  refine(HECy2.out W14 Az cz (Tab.below HT.out HB.out) hC hle).mono ?_
  rintro e W15 ⟨v_,rfl,ho,hb⟩
  obtain⟨Aey2,cey2,e_⟩:=Kd.afz ho
  subst e_
  replace HX:=Qz.k (Kd.acz HX.out hb)
  replace HY:=Qz.k (Kd.acz HY.out hb)
  replace HB:=Qz.k (aaz HB.out hb)
  clear ho hb hq0 hq1 hle hC
  go_wp2_with (fail)
  refine(HBKy.out W15).mono ?_
  rintro e W16 ⟨rfl,hb⟩
  replace HX:=Qz.k (Kd.acz HX.out hb)
  replace HY:=Qz.k (Kd.acz HY.out hb)
  replace HB:=Qz.k (aaz HB.out hb)
  clear hb
  go_wp2_with (fail)
  refine(HBKy2.out W16).mono ?_
  rintro e W17 ⟨rfl,hb⟩
  replace HX:=Qz.k (Kd.acz HX.out hb)
  replace HY:=Qz.k (Kd.acz HY.out hb)
  replace HB:=Qz.k (aaz HB.out hb)
  clear hb
  by_cases h2:By=By2
  ·subst h2
   have hN:OP.length=OQ.length:=by rw [NP.out,NQ.out]
   have g1:((OP.length:Int) ==(OQ.length:Int))=true:=by rw [hN];exact beq_self_eq_true _
   have g2:decide ((OP.length:Int)=(OQ.length:Int))=true:=by rw [hN];exact decide_eq_true rfl
   have g3:decide (OP.length=OQ.length)=true:=decide_eq_true hN
   have g4:(OP.length:Int)=(OQ.length:Int):=by rw [hN]
   go_wp2
   rw [rounds_succ]
   go_wp2
   go_ret
   exact⟨rfl,HB.out⟩
  ·have g1:(By == By2)=false:=by simp [h2]
   have g2:decide (By=By2)=false:=decide_eq_false h2
   go_wp2
   rw [rounds_succ]
   go_wp2
   go_ret
   exact⟨rfl,HB.out⟩
 ·have g1:(Bx == Bx2)=false:=by simp [h1]
  have g2:decide (Bx=Bx2)=false:=decide_eq_false h1
  go_wp2
  rw [rounds_succ]
  obtain⟨adX_,Az,cz,e_,hq0,hq1,hle,hC⟩:=bQk HX.out 1 (by decide) (by decide)
  injection e_ with e_
  subst e_
  replace hq0:W13.cell? ⟨adX_.block,adX_.off+2,none⟩=some (.string y.f0):=hq0
  replace hq1:W13.cell? ⟨adX_.block,adX_.off+2+1,none⟩=some (.slice Az y.f1.length cz):=hq1
  go_wp2_with (fail)
  refine(HECy.out W13 Az cz (Tab.below HT.out HB.out) hC hle).mono ?_
  rintro e W14 ⟨v_,rfl,ho,hb⟩
  obtain⟨Aey,cey,e_⟩:=Kd.afz ho
  subst e_
  replace HX:=Qz.k (Kd.acz HX.out hb)
  replace HY:=Qz.k (Kd.acz HY.out hb)
  replace HB:=Qz.k (aaz HB.out hb)
  clear ho hb hq0 hq1 hle hC
  obtain⟨adY_,Az,cz,e_,hq0,hq1,hle,hC⟩:=bQk HY.out 1 (by decide) (by decide)
  injection e_ with e_
  subst e_
  replace hq0:W14.cell? ⟨adY_.block,adY_.off+2,none⟩=some (.string y2.f0):=hq0
  replace hq1:W14.cell? ⟨adY_.block,adY_.off+2+1,none⟩=some (.slice Az y2.f1.length cz):=hq1
  go_wp2_with (fail)
  refine(HECy2.out W14 Az cz (Tab.below HT.out HB.out) hC hle).mono ?_
  rintro e W15 ⟨v_,rfl,ho,hb⟩
  obtain⟨Aey2,cey2,e_⟩:=Kd.afz ho
  subst e_
  replace HX:=Qz.k (Kd.acz HX.out hb)
  replace HY:=Qz.k (Kd.acz HY.out hb)
  replace HB:=Qz.k (aaz HB.out hb)
  clear ho hb hq0 hq1 hle hC
  go_wp2_with (fail)
  refine(HBKy.out W15).mono ?_
  rintro e W16 ⟨rfl,hb⟩
  replace HX:=Qz.k (Kd.acz HX.out hb)
  replace HY:=Qz.k (Kd.acz HY.out hb)
  replace HB:=Qz.k (aaz HB.out hb)
  clear hb
  go_wp2_with (fail)
  refine(HBKy2.out W16).mono ?_
  rintro e W17 ⟨rfl,hb⟩
  replace HX:=Qz.k (Kd.acz HX.out hb)
  replace HY:=Qz.k (Kd.acz HY.out hb)
  replace HB:=Qz.k (aaz HB.out hb)
  clear hb
  go_wp2
  rw [rounds_succ]
  go_wp2
  go_ret
  exact⟨rfl,HB.out⟩
end Go.Proofs.YthggdomocichdaaGreatDoor.P
namespace Go.Proofs.YthggdomocichdaaGreatDoor.Pure
open Go.Proofs.YthggdomocichdaaGreatDoor.P
theorem TopSizes : caskettop_TopSizes.Pure:=trivial
end Go.Proofs.YthggdomocichdaaGreatDoor.Pure
