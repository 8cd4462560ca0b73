/- Put together: Poly6, Aead2, Arch2, Sall1, Man1, Man2, Man3, Man4, Man5, Dec1, Dec2. -/
import Derived.Test.YthggdomocichdaaGreatDoorZ28
import Derived.Test.YthggdomocichdaaGreatDoorZ29
import Derived.Recover
import Derived.Test.YthggdomocichdaaGreatDoorZ11
import Derived.Tactics2
import Derived.Defers
set_option maxRecDepth 100000
set_option linter.unusedVariables false
set_option linter.unusedSimpArgs false
namespace Go.Proofs.YthggdomocichdaaGreatDoorW.PrintWords.Kd
open Go.RowKit Go.Proofs.YthggdomocichdaaGreatDoorW.PrintWords Go.Proofs.YthggdomocichdaaGreatDoorW.PrintLast
section
variable {α : Type}{P:Program}{ops:Array Oper}{Q:Exit→Act→World→Prop}{Kc:Act→World→Prop}{o:Oper}{a:Act}
theorem R_mkcap_step (d:Kd α){w0 W:World}(base e:Nat)(hw:Region.wanted o (yielded ops a.tmps)=true){N:Tmp}(_hd:o.dst=some N)(t:TypeId)(x y:Operand)(ho:o.op=.makeSlice t x y)(n:Int)(hx:a.eval x=.int .i64 0)(hy:a.eval y=.int .i64 n)
  (ht:P.underlying t=some (.slice e)) (z:Value) (bytes:Nat) (hinfo:(P.info? e).map (fun i=>(i.zero,i.size,i.bytes))=some (some z,d.sz,bytes)) (hz:z.cells.size=d.sz) (hs0:0<d.sz) (hb0:0<bytes)
  (z0 : α) {ok okp:Nat→Prop} (hzero:d.M W base okp z0 z.cells.toList) (hok:∀ k,okp k→ok k) (hfresh:ok W.heap.size) (h0:0≤n) (hl:n.toNat*bytes≤281474976710656) (HB:Below base w0 W) (hbase:base≤W.heap.size)
  (h:∀ v1 w1,d.R e w1 base ok v1 (List.replicate 0 z0)→Below base w0 w1→W.grownBy w1 none→(∃ b,v1.ownBlock=some b∧W.heap.size≤b)→Kc (a.put o.dst v1) w1):if Region.wanted o (yielded ops a.tmps)=true then Oper.wp P o a W Kc Q else Kc (a.put o.dst undef) W:=by
 obtain⟨m,rfl⟩:=Int.eq_ofNat_of_zero_le h0
 simp only [Int.toNat_natCast]at hl h
 obtain⟨i0,hi,hzz⟩:=Option.map_eq_some_iff.1 hinfo
 simp only [Prod.mk.injEq]at hzz
 obtain⟨hz0,hz1,hz2⟩:=hzz
 have hm:m≤281474976710656:=Nat.le_trans (Nat.le_mul_of_pos_right _ hb0) hl
 have hr:=run_make (P:=P) W t e i0 z ht hi hz0 .i64 .i64 0 (m:Int) (by omega) (by omega)
  (by
   have h3:((i0.bytes*m:Nat):Int)≤281474976710656:=by rw [hz2,Nat.mul_comm];omega
   rwa [Int.natCast_mul]at h3) (by omega)
 simp only [Int.toNat_natCast]at hr
 rw [hz1]at hr
 have hrun:(execOp a.eval o).run P W=.ok (.value (.slice (some ⟨W.heap.size,0,none⟩) 0 m)) (W.alloc (.cells (madeCells z.cells (m*d.sz)) e)):=by
  simp [execOp,ho,hx,hy,hr]
 have hrep:Reps (d.M W base okp) d.sz (List.replicate m z0) (madeCells z.cells (m*d.sz)).toList:=bsz hz hs0 hzero m
 have hfull:d.R e (W.alloc (.cells (madeCells z.cells (m*d.sz)) e)) base ok (.slice (some ⟨W.heap.size,0,none⟩) m m) (List.replicate m z0):=by
  refine⟨fun k hk=>?_,(madeCells z.cells (m*d.sz)).toList,?_,?_⟩
  ·have:W.heap.size=k:=by simpa [Value.ownBlock]using hk
   subst this
   exact hfresh
  ·have h2:=World.ownsRow_lit (base:=base) (e:=e) (size:=d.sz) W (madeCells z.cells (m*d.sz)) m hbase (by simp [maxLen];omega) (by simpa using hrep.1)
   simpa using h2
  ·refine hrep.imp_ (fun p c hp=>d.M_mono (fun k hk=>⟨hok k hk.1,fun he=>?_⟩) (M_below (d.M_bound hp) (aaq (Below.refl _ _) _)))
   have h3:k=W.heap.size:=by simpa [Value.ownBlock]using he
   have:=hk.2.2.1
   omega
 exact bhq hw hrun (h _ _ (R_take hfull (Nat.zero_le _)) (HB.alloc hbase _) (World.grownBy_alloc W _ none) ⟨W.heap.size,by simp [Value.ownBlock],Nat.le_refl _⟩)
end
end Go.Proofs.YthggdomocichdaaGreatDoorW.PrintWords.Kd
namespace Go.Proofs.YthggdomocichdaaGreatDoor.P
open Go.RowKit Go.Proofs.YthggdomocichdaaGreatDoor.Kit Go.Proofs.YthggdomocichdaaGreatDoorW.PrintWords Go.Proofs.YthggdomocichdaaGreatDoorW.PrintLast Go.Proofs.YthggdomocichdaaGreatDoorW.PrintMore
attribute [local go_sem] awq awz aCq aCz
def poly_MAC.T9 : Bool×List (List Nat×List Nat):=(true,[([],[]),([],[]),([],[]),([],[]),([1,2,3],[1,2,3]),([0,4],[0,4]),([],[]),([5,6,5],[5,6]),([7,7],[7]),([],[]),([9,8,8,0,1,2,3,4,5,6,7,8,9],[8,9])])
def poly_MAC.B9 : List Nat:=[0,0,0,0,14,31,0,127,255,0,1023]
theorem poly_MAC.tab9 : rtab .any (opsOf Tryz.f166 9)=poly_MAC.T9:=by kernel_rfl
theorem poly_MAC.bits9 : aLq poly_MAC.T9.2 poly_MAC.B9=true:=by kernel_rfl
theorem By.one : By [1]:=fun x hx=>by rw [List.mem_singleton.1 hx];decide
theorem tail_one {P:List Int}(hP:P.length≤16)(h:16<(P ++ [1]).length):rd (P ++ [1]) 16=1:=by
 have h16:P.length=16:=by
  rw [List.length_append,List.length_singleton]at h
  omega
 have:=aUk (P ++ [1]) 16
 rw [List.getD,List.getElem?_append_right (by omega),h16]at this
 exact this
theorem one_len {P:List Int}(hP:P.length≤16):(P ++ [1]).length≤17:=by
 rw [List.length_append,List.length_singleton]
 omega
theorem one_by {P:List Int}(hb:By P):∀ k:Nat,k<(P ++ [1]).length→0≤rd (P ++ [1]) (k:Int)∧rd (P ++ [1]) (k:Int)<256:=fun k hk=>(hb.app By.one).at hk
theorem of_tail0 {P L:List Int}(hL:L=P ++ [1])(hP:P.length≤16)(hb:By P)(A:Option Addr)(c:Nat)(w1:World)(h:Kd.C (Kd.int .u8) w1 A L.length L)(hc:L.length≤c) :
  Calls Tryz.prog 206 #[.slice A L.length c] w1 fun e w'=>∃ m:List Int,e=.returned (.agg (arrV .u64 m))∧m.length=5∧Below w1.heap.size w1 w':=
 poly_of.calls A c L w1 h hc (by rw [hL];exact one_len hP) (by rw [hL];exact one_by hb) (by rw [hL];exact tail_one hP)
theorem of_tail {P:List Int}(hP:P.length≤16)(hb:By P)(A:Option Addr)(c:Nat)(w1:World)(h:Kd.C (Kd.int .u8) w1 A (P ++ [1]).length (P ++ [1]))(hc:(P ++ [1]).length≤c) :
  Calls Tryz.prog 206 #[.slice A (P ++ [1]).length c] w1 fun e w'=>∃ m:List Int,e=.returned (.agg (arrV .u64 m))∧m.length=5∧Below w1.heap.size w1 w':=of_tail0 rfl hP hb A c w1 h hc
set_option maxHeartbeats 4000000 in
theorem poly_MAC.calls (A0:Option Addr)(c0:Nat)(key:List Int)(A1:Option Addr)(c1:Nat)(bs:List Int)(w:World)(hr0:Kd.C (Kd.int .u8) w A0 key.length key)(hc0:key.length≤c0)(hk:key.length=32)(hkb:By key)(hr1:Kd.C (Kd.int .u8) w A1 bs.length bs)(hc1:bs.length≤c1)(hl:bs.length<1099511627776)(hb:By bs) :
  Calls Tryz.prog 166 #[.slice A0 key.length c0,.slice A1 bs.length c1] w fun e w'=>∃ (v0_:Value) (r:List Int),e=.returned (.tuple #[v0_,.int .i64 0])∧r.length=16∧Kd.R (Kd.int .u8) 5 w' w.heap.size (fun _=>True) v0_ r∧Below w.heap.size w w'   := by
 have HC0:=Qz.k hc0
 have HR1:=Qz.k hr1
 have HC1:=Qz.k hc1
 have HK:=Qz.k hk
 have HL:=Qz.k hl
 have HBY:=Qz.k hb
 obtain⟨ad0,ea0,_⟩:=Kd.asz hr0 ((0:Nat):Int) (by omega) (by omega)
 subst ea0
 have HOS:=Qz.k (show ∀ w1,Below w.heap.size w w1→Calls Tryz.prog 206 #[.slice (some (ad0.add 16)) (key.length-16) (c0-16)] w1 fun e w'=>∃ m:List Int,e=.returned (.agg (arrV .u64 m))∧m.length=5∧Below w1.heap.size w1 w' from fun w1 h=>by
  have hd:=Kd.bTz (m:=16) (c:=c0) (Kd.acz hr0 h) (by omega) hc0
  rw [if_neg (by omega),show(Kd.int IntKind.u8).sz=1 from rfl,Nat.mul_one]at hd
  have hd2:(key.drop 16).length=key.length-16:=List.length_drop
  have:=poly_of.calls _ (c0-16) (key.drop 16) w1 hd (by rw [hd2];omega) (by rw [hd2];omega) (fun k hk=>(hkb.drop 16).at hk) (by rw [hd2];exact fun h=>by omega)
  rw [hd2]at this
  exact this)
 have HCL:=Qz.k (fun w1 (h:Below w.heap.size w w1)=>poly_clamped.calls (some ad0) c0 key w1 (Kd.acz hr0 h) hc0 hk hkb)
 have f16:¬ c0=16:=by omega
 have e1:((key.length:Int) == 32)=true:=by rw [hk];rfl
 have e2:(key.length == 32)=true:=by rw [hk];rfl
 have e3:decide ((key.length:Int)=32)=true:=by rw [hk];rfl
 have e4:decide (key.length=32)=true:=by rw [hk];rfl
 have g16:(16:Int)≤(key.length:Int):=by omega
 have g17:16≤key.length:=by omega
 clear hr0 hc0 hk hkb hr1 hc1 hl hb
 go_enter Tryz.func166,Tryz.ntmps166
 go_wp2_with (fail)
 refine(HCL.out w (Below.refl _ _)).mono ?_
 rintro e w3 ⟨lr,rfl,hlr,hb⟩
 have HLR:=Qz.k hlr
 have HB3:=Qz.k hb
 clear hlr hb HCL
 go_upto_region 5 with(first
  |((with_reducible refine ahk (N:=6) rfl ?_);refine aik ?hg (N:=6) ?hd (cs:=arrV .u64 (List.replicate 5 0)) (t:=216) ?hr ?_;(case hd=>rfl);(case hg=>rfl);(case hr=>first|(go_simp;done)|(go_simp;rfl));intro g6 hg w4 hbox hb;have HZ4:=Qz.k (show Arr w4 g6 216 .u64 (List.replicate 5 0)from hbox);have GEg6:=Qz.k (show w.heap.size≤g6 from by rw [hg];exact HB3.out.size);have HB4:=Qz.k (aaz HB3.out hb);clear hbox hb hg HB3)
  |((with_reducible refine ahk (N:=7) rfl ?_);refine aik ?hg (N:=7) ?hd (cs:=arrV .u64 (List.replicate 5 0)) (t:=216) ?hr ?_;(case hd=>rfl);(case hg=>rfl);(case hr=>first|(go_simp;done)|(go_simp;rfl));intro g7 hg w6 hbox hb;have HA6:=Qz.k (show Arr w6 g7 216 .u64 (List.replicate 5 0)from hbox);have GEg7:=Qz.k (show w.heap.size≤g7 from by rw [hg];exact HB5.out.size);have HB6:=Qz.k (aaz HB5.out hb);have NEg7g6:=Qz.k (show g7≠g6 from by rw [hg];exact Nat.ne_of_gt HZ5.out.lt);have HZ6:=Qz.k (Arr.below HZ5.out hb);clear hbox hb hg HB5 HZ5)
  |(refine arq (g:=g6) (l':=lr) 216 (.tmp 6) (.tmp 17) rfl rfl rfl rfl rfl HZ4.out (amk lr HLR.out) (by rw [HLR.out];rfl) ?_;have HZ5:=Qz.k (Arr.row HZ4.out lr);have HB5:=Qz.k (anz (c:=arrV .u64 lr) HB4.out GEg6.out);clear HZ4 HB4;generalize w4.setRow g6 (arrV .u64 lr)=w5 at *))
 go_wp2
 go_loopg [8,9,10] (bs.length+16) (fun kq v8 v9 v10 W'=>∃ (k:Nat) (la:List Int),v8=.int .i64 (k:Int)∧kq=bs.length+16-k∧k≤bs.length+15∧Qz (la.length=5)∧Qz (Arr W' g7 216 .u64 la)∧Qz (Arr W' g6 216 .u64 lr)∧Qz (Below w.heap.size w W'))
 case atStart=>exact⟨0,_,rfl,rfl,by omega,⟨rfl⟩,HA6,HZ6,HB6⟩
 case round=>
  clear HA6 HZ6 HB6
  obtain⟨k,la,rfl,rfl,hk,HLA,HA,HRR,HB⟩:=hrel
  by_cases hlt:k<bs.length
  ·have c3:decide ((k:Int)<(bs.length:Int))=true:=decide_eq_true (by omega)
   have c4:decide (k<bs.length)=true:=decide_eq_true hlt
   have n0:(k:Int)<1099511627776:=by have:=HL.out;omega
   have HW:=Qz.k (show wrap64 ((k:Int)+16)=((k+16:Nat):Int)from by rw [agq (by omega) (by omega)];omega)
   obtain⟨ad,ea,hx⟩:=Kd.asz HR1.out (k:Int) (by omega) (by omega)
   subst ea
   clear hx
   obtain⟨en,hen⟩:∃ en:Nat,min (k+16) bs.length=en:=⟨_,rfl⟩
   have m1:k≤en:=by omega
   have m2:en≤bs.length:=by omega
   have m3:en≤k+16:=by omega
   have m4:k<c1:=by have:=HC1.out;omega
   have m5:en≤c1:=by have:=HC1.out;omega
   have m6:¬ c1=k:=by omega
   have hmi:(if(bs.length:Int)<(k:Int)+16 then(bs.length:Int)else(k:Int)+16)=(en:Int):=by split <;> omega
   obtain⟨P,hP⟩:∃ P,(bs.take en).drop k=P:=⟨_,rfl⟩
   have HPL:=Qz.k (show P.length=en-k from by rw [←hP,List.length_drop,List.length_take];omega)
   have HPB:=Qz.k (show By P from by rw [←hP];exact(HBY.out.take en).drop k)
   have HSUB:=Qz.k (show Kd.C (Kd.int .u8) w (some (ad.add k)) (en-k) P from by
    have:=Kd.C_mid (lo:=k) (hi:=en) HR1.out m1 m2 HC1.out
    rw [if_neg (by omega),hP,HPL.out]at this
    rw [show(Kd.int IntKind.u8).sz=1 from rfl,Nat.mul_one]at this
    exact this)
   have HPM:=Qz.k (show P.length≤16 from by rw [HPL.out];omega)
   have HOF:=Qz.k (of_tail HPM.out HPB.out)
   clear hP hen
   go_upto_region 9 with(fail)
   refine axq (n:=11) (S:=fun w'=>True) (ds:=[]) (bl 11 0) (by kernel_rfl) rfl rfl trivial (fun hHeld=>?_)
   refine aNk poly_MAC.tab9 poly_MAC.bits9 (fun HT_ HW_=>?_)
   refine pu_ 1 30 ?_ ?_ (bl 11 2) rfl rfl (amq HT_.out (by kernel_rfl)) ?_ ?_ ?_
   rotate_left 2
   ·intro w';go_simp;with_reducible rfl
   ·simp only [Act.put,putA,putZ,putS,abq,abk];rfl
   refine pu_ 2 31 ?_ ?_ (bl 11 6) rfl rfl (amq HT_.out (by kernel_rfl)) ?_ ?_ ?_
   rotate_left 2
   ·intro w';go_simp;with_reducible rfl
   ·simp only [Act.put,putA,putZ,putS,abq,abk];rfl
   refine pu_ 3 32 ?_ ?_ (bl 11 14) rfl rfl (amq HT_.out (by kernel_rfl)) ?_ ?_ ?_
   rotate_left 2
   ·intro w';go_simp;with_reducible rfl
   ·simp only [Act.put,putA,putZ,putS,abq,abk];rfl
   refine pu_ 4 33 ?_ ?_ (bl 11 30) rfl rfl (amq HT_.out (by kernel_rfl)) ?_ ?_ ?_
   rotate_left 2
   ·intro w';go_simp;with_reducible rfl
   ·simp only [Act.put,putA,putZ,putS,abq,abk];rfl
   refine inv_at [0,5,6,7,8,9,10] (fun a0_ b a w'=>∃ (v29:Value) (v34:Value) (v35:Value) (v36:Value) (m37:List Int) (g10:Nat) (m8_:Value) (m9_:Value),a=awk a0_ b [(0,29,v29),(5,34,v34),(6,35,v35),(7,36,v36),(8,37,m8_),(9,10,m9_)]∧(Below w.heap.size w w')∧(Arr w' g7 216 .u64 la)∧(Arr w' g6 216 .u64 lr)∧(b 0=true→b 5=false→Kd.R (Kd.int .u8) 5 w' w.heap.size (fun _=>True) v29 ([]:List Int))∧(b 5=true→b 7=false→Kd.R (Kd.int .u8) 5 w' w.heap.size (fun _=>True) v34 P)∧(b 6=true→b 7=false→Kd.R (Kd.int .u8) 5 w' w.heap.size (fun _=>True) v35 ([1]:List Int))∧(b 7=true→b 8=false→Kd.R (Kd.int .u8) 5 w' w.heap.size (fun _=>True) v36 (P ++ [1]))∧(b 6=true→b 0=true→b 5=false→(v29.ownBlock=none∨v29.ownBlock≠v35.ownBlock))∧(b 6=true→b 5=true→b 7=false→(v34.ownBlock=none∨v34.ownBlock≠v35.ownBlock))∧(b 8=true→m37.length=5)∧(b 9=true→b 10=false→Arr w' g10 216 .u64 (List.replicate 5 0))∧(b 9=true→w.heap.size≤g10∧g10≠g7∧g10≠g6)∧(b 10=true→Arr w' g10 216 .u64 m37)∧(b 8=true→(m8_:Value)=.agg (arrV .u64 m37))∧(b 9=true→(m9_:Value)=.pointer (some ⟨g10,0,none⟩))) HT_.out HW_.out (by kernel_rfl) (by kernel_rfl) ?_ ?_ ?_
   ·exact⟨.bool false,.bool false,.bool false,.bool false,[],0,.bool false,.bool false,by simp only [awk,Bool.false_eq_true,if_false],(aez HB.out),(Arr.drew HA.out),(Arr.drew HRR.out),fun h_=>absurd h_ (by decide),fun h_=>absurd h_ (by decide),fun h_=>absurd h_ (by decide),fun h_=>absurd h_ (by decide),fun h_=>absurd h_ (by decide),fun h_=>absurd h_ (by decide),fun h_=>absurd h_ (by decide),fun h_=>absurd h_ (by decide),fun h_=>absurd h_ (by decide),fun h_=>absurd h_ (by decide),fun h_=>absurd h_ (by decide),fun h_=>absurd h_ (by decide)⟩
   ·skip
    clear HA HB HRR
    refine ajz ?_ ?_
    ·rintro b a w' ⟨v29,v34,v35,v36,m37,g10,m8_,m9_,ha,Q_HB,Q_HA,Q_HRR,Q_F29,Q_F34,Q_F35,Q_F36,Q_N1,Q_N2,Q_FM,Q_F10,Q_G10,Q_H10,Q_X8_,Q_X9_⟩ hb_ hon hoff
     refine⟨_,rfl,fun K hK=>?_⟩
     replace ha:=Qz.k ha
     have HB:=Qz.k Q_HB
     have HA:=Qz.k Q_HA
     have HRR:=Qz.k Q_HRR
     refine Kd.R_mkcap_step (Kd.int .u8) (w0:=w) w.heap.size 5 (by rfl) (N:=29) rfl 27 (.const (.int .i64 0)) (.const (.int .i64 17)) rfl 17 rfl rfl Tryz.underlying27 (.int .u8 0) 1 info5 rfl (by decide) (by decide) 0 (ok:=fun _=>True) (okp:=fun _=>True) rfl (fun _ h=>h) trivial (by decide) (by decide) HB.out HB.out.size ?_
     intro v0 w3 ho hb hg hat
     refine hK.out _ _ ⟨v0,v34,v35,v36,m37,g10,m8_,m9_,(by rw [ha.out];exact ajk 0 hb_ rfl rfl rfl),hb,(HA.out.grown hg (by simp)),(HRR.out.grown hg (by simp)),fun _ _=>ho,fun h0_ _=>absurd ((hoff 5 (by kernel_rfl)).symm.trans h0_) (by decide),fun h0_ h1_=>(Kd.aUz (Q_F35 h0_ h1_) hg (fun _ _=>by simp)),fun h0_ _=>absurd ((hoff 7 (by kernel_rfl)).symm.trans h0_) (by decide),fun h0_=>(fun _ _=>bgk (n:=w'.heap.size) (fun k hk=>by obtain⟨q,hq,hl⟩:=hat;rw [hq]at hk;injection hk with hk;omega) (fun k hk=>Kd.R_lt (Q_F35 h0_ (hoff 7 (by kernel_rfl))) k hk)),Q_N2,fun h0_=>absurd ((hoff 8 (by kernel_rfl)).symm.trans h0_) (by decide),fun h0_ h1_=>((Q_F10 h0_ h1_).grown hg (by simp)),Q_G10,fun h0_=>absurd ((hoff 10 (by kernel_rfl)).symm.trans h0_) (by decide),fun h0_=>absurd ((hoff 8 (by kernel_rfl)).symm.trans h0_) (by decide),Q_X9_⟩
    refine ajz ?_ ?_
    ·rintro b a w' ⟨v29,v34,v35,v36,m37,g10,m8_,m9_,ha,Q_HB,Q_HA,Q_HRR,Q_F29,Q_F34,Q_F35,Q_F36,Q_N1,Q_N2,Q_FM,Q_F10,Q_G10,Q_H10,Q_X8_,Q_X9_⟩ hb_ hon hoff
     refine⟨_,rfl,fun K hK=>?_⟩
     have e29:a.tmps[29]? = some (v29):=by rw [ha];exact alq (e:=(0,29,v29)) 0 rfl rfl (hon 0 (by kernel_rfl)) rfl
     have e33:a.tmps[33]? = some (.slice (some (ad.add k)) (en-k) (c1-k)):=by rw [ha];exact(auz rfl).trans rfl
     replace ha:=Qz.k ha
     have HB:=Qz.k Q_HB
     have HA:=Qz.k Q_HA
     have HRR:=Qz.k Q_HRR
     have F29:=Qz.k (Q_F29 (hon 0 (by kernel_rfl)) hb_)
     refine Kd.avq (Kd.int .u8) (w0:=w) w.heap.size (by rfl) (.tmp 29) (.tmp 33) 27 5 (.int .u8 0) 1 rfl Tryz.underlying27 info5 rfl (by decide) (by decide) v29 [] P _ _ _ (fun _=>True) (fun _=>False) (apq e29) (apq e33) F29.out (Kd.acz HSUB.out HB.out) (fun _ _ h=>h) (fun _ h=>h.elim) (fun _ _=>trivial) HB.out HB.out.size (by have:=HPL.out;simp;omega) ?_
     intro v0 w3 ho hb hg hat
     refine hK.out _ _ ⟨v29,v0,v35,v36,m37,g10,m8_,m9_,(by rw [ha.out];exact ajk 1 hb_ rfl rfl rfl),hb,(HA.out.grown hg (HA.out.own_ne F29.out (by decide))),(HRR.out.grown hg (HRR.out.own_ne F29.out (by decide))),fun _ h1_=>absurd ((aBq b 5).symm.trans h1_) (by decide),fun _ _=>ho,fun h0_ h1_=>(Kd.R_grown2 (Q_F35 h0_ h1_) rfl hg (fun k hk=>atom_of (Q_N1 h0_ (hon 0 (by kernel_rfl)) hb_) hk)),fun h0_ _=>absurd ((hoff 7 (by kernel_rfl)).symm.trans h0_) (by decide),fun h0_=>(fun _ h5=>absurd ((aBq b 5).symm.trans h5) (by decide)),fun h0_=>(fun _ _=>hat.elim (fun h=>by rw [h];exact Q_N1 h0_ (hon 0 (by kernel_rfl)) hb_) (fun hq=>bgk (n:=w'.heap.size) (fun k hk=>by obtain⟨q,hq,hl⟩:=hq;rw [hq]at hk;injection hk with hk;omega) (fun k hk=>Kd.R_lt (Q_F35 h0_ (hoff 7 (by kernel_rfl))) k hk))),fun h0_=>absurd ((hoff 8 (by kernel_rfl)).symm.trans h0_) (by decide),fun h0_ h1_=>((Q_F10 h0_ h1_).grown hg ((Q_F10 h0_ h1_).own_ne F29.out (by decide))),Q_G10,fun h0_=>absurd ((hoff 10 (by kernel_rfl)).symm.trans h0_) (by decide),fun h0_=>absurd ((hoff 8 (by kernel_rfl)).symm.trans h0_) (by decide),Q_X9_⟩
    refine ajz ?_ ?_
    ·rintro b a w' ⟨v29,v34,v35,v36,m37,g10,m8_,m9_,ha,Q_HB,Q_HA,Q_HRR,Q_F29,Q_F34,Q_F35,Q_F36,Q_N1,Q_N2,Q_FM,Q_F10,Q_G10,Q_H10,Q_X8_,Q_X9_⟩ hb_ hon hoff
     refine⟨_,rfl,fun K hK=>?_⟩
     replace ha:=Qz.k ha
     have HB:=Qz.k Q_HB
     have HA:=Qz.k Q_HA
     have HRR:=Qz.k Q_HRR
     refine Kd.R_lit_step (Kd.int .u8) (w0:=w) w.heap.size 5 (by rfl) (N:=35) rfl (xs:=([1]:List Int)) (inner:=[.int .u8 1]) (ok:=fun _=>True) (okp:=fun _=>True) ?hr6 (Reps.one (show Kd.M (Kd.int .u8) _ _ _ 1 [.int .u8 1]from rfl) (Reps.none _ _)) (fun _ hk=>hk) trivial HB.out HB.out.size (by simp) ?_
     (case hr6=>first|(go_simp;done)|(go_simp;rfl))
     intro v0 w3 ho hb hg hat
     refine hK.out _ _ ⟨v29,v34,v0,v36,m37,g10,m8_,m9_,(by rw [ha.out];exact ajk 2 hb_ rfl rfl rfl),hb,(HA.out.grown hg (by simp)),(HRR.out.grown hg (by simp)),fun h0_ h1_=>(Kd.aUz (Q_F29 h0_ h1_) hg (fun _ _=>by simp)),fun h0_ h1_=>(Kd.aUz (Q_F34 h0_ h1_) hg (fun _ _=>by simp)),fun _ _=>ho,fun h0_ _=>absurd ((hoff 7 (by kernel_rfl)).symm.trans h0_) (by decide),fun _=>(fun h0 h5=>own_apart (n:=w'.heap.size) (fun k hk=>Kd.R_lt (Q_F29 h0 h5) k hk) (fun k hk=>by obtain⟨q,hq,hl⟩:=hat;rw [hq]at hk;injection hk with hk;omega)),fun _=>(fun h5 _=>own_apart (n:=w'.heap.size) (fun k hk=>Kd.R_lt (Q_F34 h5 (hoff 7 (by kernel_rfl))) k hk) (fun k hk=>by obtain⟨q,hq,hl⟩:=hat;rw [hq]at hk;injection hk with hk;omega)),fun h0_=>absurd ((hoff 8 (by kernel_rfl)).symm.trans h0_) (by decide),fun h0_ h1_=>((Q_F10 h0_ h1_).grown hg (by simp)),Q_G10,fun h0_=>absurd ((hoff 10 (by kernel_rfl)).symm.trans h0_) (by decide),fun h0_=>absurd ((hoff 8 (by kernel_rfl)).symm.trans h0_) (by decide),Q_X9_⟩
    refine ajz ?_ ?_
    ·rintro b a w' ⟨v29,v34,v35,v36,m37,g10,m8_,m9_,ha,Q_HB,Q_HA,Q_HRR,Q_F29,Q_F34,Q_F35,Q_F36,Q_N1,Q_N2,Q_FM,Q_F10,Q_G10,Q_H10,Q_X8_,Q_X9_⟩ hb_ hon hoff
     refine⟨_,rfl,fun K hK=>?_⟩
     have e34:a.tmps[34]? = some (v34):=by rw [ha];exact alq (e:=(5,34,v34)) 1 rfl rfl (hon 5 (by kernel_rfl)) rfl
     have e35:a.tmps[35]? = some (v35):=by rw [ha];exact alq (e:=(6,35,v35)) 2 rfl rfl (hon 6 (by kernel_rfl)) rfl
     replace ha:=Qz.k ha
     have HB:=Qz.k Q_HB
     have HA:=Qz.k Q_HA
     have HRR:=Qz.k Q_HRR
     have F34:=Qz.k (Q_F34 (hon 5 (by kernel_rfl)) hb_)
     have F35:=Qz.k (Q_F35 (hon 6 (by kernel_rfl)) hb_)
     have N1:=Qz.k (Q_N1 (hon 6 (by kernel_rfl)))
     have N2:=Qz.k (Q_N2 (hon 6 (by kernel_rfl)))
     obtain⟨A5,c5,e5v⟩:=Kd.afz F35.out
     have F35b:=F35.out
     rw [e5v]at F35b
     refine Kd.avq (Kd.int .u8) (w0:=w) w.heap.size (by rfl) (.tmp 34) (.tmp 35) 27 5 (.int .u8 0) 1 rfl Tryz.underlying27 info5 rfl (by decide) (by decide) v34 P [1] _ _ _ (fun _=>True) (fun _=>False) (apq e34) ((apq e35).trans e5v) F34.out ((Kd.ack F35b).2.2) (fun _ _ h=>h) (fun _ h=>h.elim) (fun _ _=>trivial) HB.out HB.out.size (by have:=HPL.out;simp;omega) ?_
     intro v0 w3 ho hb hg hat
     refine hK.out _ _ ⟨v29,v34,v35,v0,m37,g10,m8_,m9_,(by rw [ha.out];exact ajk 3 hb_ rfl rfl rfl),hb,(HA.out.grown hg (HA.out.own_ne F34.out (by decide))),(HRR.out.grown hg (HRR.out.own_ne F34.out (by decide))),fun _ h1_=>absurd ((hon 5 (by kernel_rfl)).symm.trans h1_) (by decide),fun _ h1_=>absurd ((aBq b 7).symm.trans h1_) (by decide),fun _ h1_=>absurd ((aBq b 7).symm.trans h1_) (by decide),fun _ _=>ho,Q_N1,fun _=>(fun _ h7=>absurd ((aBq b 7).symm.trans h7) (by decide)),fun h0_=>absurd ((hoff 8 (by kernel_rfl)).symm.trans h0_) (by decide),fun h0_ h1_=>((Q_F10 h0_ h1_).grown hg ((Q_F10 h0_ h1_).own_ne F34.out (by decide))),Q_G10,fun h0_=>absurd ((hoff 10 (by kernel_rfl)).symm.trans h0_) (by decide),fun h0_=>absurd ((hoff 8 (by kernel_rfl)).symm.trans h0_) (by decide),Q_X9_⟩
    refine ajz ?_ ?_
    ·rintro b a w' ⟨v29,v34,v35,v36,m37,g10,m8_,m9_,ha,Q_HB,Q_HA,Q_HRR,Q_F29,Q_F34,Q_F35,Q_F36,Q_N1,Q_N2,Q_FM,Q_F10,Q_G10,Q_H10,Q_X8_,Q_X9_⟩ hb_ hon hoff
     refine⟨_,rfl,fun K hK=>?_⟩
     have e36:a.tmps[36]? = some (v36):=by rw [ha];exact alq (e:=(7,36,v36)) 3 rfl rfl (hon 7 (by kernel_rfl)) rfl
     replace ha:=Qz.k ha
     have HB:=Qz.k Q_HB
     have HA:=Qz.k Q_HA
     have HRR:=Qz.k Q_HRR
     have F36:=Qz.k (Q_F36 (hon 7 (by kernel_rfl)) hb_)
     have N1:=Qz.k (Q_N1 (hon 6 (by kernel_rfl)))
     have N2:=Qz.k (Q_N2 (hon 6 (by kernel_rfl)))
     obtain⟨A6,c6,e6v⟩:=Kd.afz F36.out
     have F36b:=F36.out
     rw [e6v]at F36b
     have e36b:=e36.trans (congrArg some e6v)
     refine aFq Tryz.func206 (by kernel_rfl) rfl #[.slice A6 (P ++ [1]).length c6] (by rfl) rfl rfl (by simp only [List.map_toArray,List.map_cons,List.map_nil,Act.eval,Array.getD_eq_getD_getElem?,e36b,Option.getD_some]) ?_
     with_reducible refine(HOF.out A6 c6 w' (Kd.ack F36b).2.2 (Kd.ack F36b).2.1).mono ?_
     rintro e w3 ⟨mm,rfl,hm,hb⟩
     refine⟨_,rfl,?_⟩
     refine hK.out _ _ ⟨v29,v34,v35,v36,mm,g10,(.agg (arrV .u64 mm)),m9_,(by rw [ha.out];exact ajk 4 hb_ rfl rfl rfl),(aaz HB.out hb),(Arr.below HA.out hb),(Arr.below HRR.out hb),fun _ h1_=>absurd ((hon 5 (by kernel_rfl)).symm.trans h1_) (by decide),fun _ h1_=>absurd ((hon 7 (by kernel_rfl)).symm.trans h1_) (by decide),fun _ h1_=>absurd ((hon 7 (by kernel_rfl)).symm.trans h1_) (by decide),fun _ h1_=>absurd ((aBq b 8).symm.trans h1_) (by decide),Q_N1,Q_N2,fun _=>hm,fun h0_ h1_=>(Arr.below (Q_F10 h0_ h1_) hb),Q_G10,fun h0_=>absurd ((hoff 10 (by kernel_rfl)).symm.trans h0_) (by decide),fun _=>rfl,Q_X9_⟩
    refine ajz ?_ ?_
    ·rintro b a w' ⟨v29,v34,v35,v36,m37,g10,m8_,m9_,ha,Q_HB,Q_HA,Q_HRR,Q_F29,Q_F34,Q_F35,Q_F36,Q_N1,Q_N2,Q_FM,Q_F10,Q_G10,Q_H10,Q_X8_,Q_X9_⟩ hb_ hon hoff
     refine⟨_,rfl,fun K hK=>?_⟩
     replace ha:=Qz.k ha
     have HB:=Qz.k Q_HB
     have HA:=Qz.k Q_HA
     have HRR:=Qz.k Q_HRR
     refine box_step (by rfl) (N:=10) rfl (cs:=arrV .u64 (List.replicate 5 0)) (t:=216) ?hr9 ?_
     (case hr9=>first|(go_simp;done)|(go_simp;rfl))
     intro g hgq w3 hbox hb
     refine hK.out _ _ ⟨v29,v34,v35,v36,m37,g,m8_,(.pointer (some ⟨g,0,none⟩)),(by rw [ha.out];exact ajk 5 hb_ rfl rfl rfl),(aaz HB.out hb),(Arr.below HA.out hb),(Arr.below HRR.out hb),fun h0_ h1_=>(Kd.ahz (Q_F29 h0_ h1_) hb),fun h0_ h1_=>(Kd.ahz (Q_F34 h0_ h1_) hb),fun h0_ h1_=>(Kd.ahz (Q_F35 h0_ h1_) hb),fun h0_ h1_=>(Kd.ahz (Q_F36 h0_ h1_) hb),Q_N1,Q_N2,Q_FM,fun _ _=>hbox,fun _=>⟨by rw [hgq];exact HB.out.size,by rw [hgq];exact Nat.ne_of_gt HA.out.lt,by rw [hgq];exact Nat.ne_of_gt HRR.out.lt⟩,fun h0_=>absurd ((hoff 10 (by kernel_rfl)).symm.trans h0_) (by decide),Q_X8_,fun _=>rfl⟩
    refine ajz ?_ ?_
    ·rintro b a w' ⟨v29,v34,v35,v36,m37,g10,m8_,m9_,ha,Q_HB,Q_HA,Q_HRR,Q_F29,Q_F34,Q_F35,Q_F36,Q_N1,Q_N2,Q_FM,Q_F10,Q_G10,Q_H10,Q_X8_,Q_X9_⟩ hb_ hon hoff
     refine⟨_,rfl,fun K hK=>?_⟩
     have e10:a.tmps[10]? = some (m9_):=by rw [ha];exact alq (e:=(9,10,m9_)) 5 rfl rfl (hon 9 (by kernel_rfl)) rfl
     rw [Q_X9_ (hon 9 (by kernel_rfl))]at e10
     have e37:a.tmps[37]? = some (m8_):=by rw [ha];exact alq (e:=(8,37,m8_)) 4 rfl rfl (hon 8 (by kernel_rfl)) rfl
     rw [Q_X8_ (hon 8 (by kernel_rfl))]at e37
     replace ha:=Qz.k ha
     have HB:=Qz.k Q_HB
     have HA:=Qz.k Q_HA
     have HRR:=Qz.k Q_HRR
     have N1:=Qz.k (Q_N1 (hon 6 (by kernel_rfl)))
     have N2:=Qz.k (Q_N2 (hon 6 (by kernel_rfl)))
     have FM:=Qz.k (Q_FM (hon 8 (by kernel_rfl)))
     have F10:=Qz.k (Q_F10 (hon 9 (by kernel_rfl)) hb_)
     have G10:=Qz.k (Q_G10 (hon 9 (by kernel_rfl)))
     refine bbk (w1:=w'.setRow g10 (arrV .u64 m37)) (by rfl) rfl ?_ ?_
     ·exact aSq 216 (.tmp 10) (.tmp 37) (.pointer (some ⟨g10,0,none⟩)) (.agg (arrV .u64 m37)) rfl (apq e10) (apq e37) (F10.out.storeAt (amk m37 FM.out) (by rw [FM.out];rfl))
     refine hK.out _ _ ⟨v29,v34,v35,v36,m37,g10,m8_,m9_,(by rw [ha.out];exact bLq (v:=undef) rfl),(anz HB.out G10.out.1),(HA.out.aTz (Ne.symm G10.out.2.1) _),(HRR.out.aTz (Ne.symm G10.out.2.2) _),fun _ h1_=>absurd ((hon 5 (by kernel_rfl)).symm.trans h1_) (by decide),fun _ h1_=>absurd ((hon 7 (by kernel_rfl)).symm.trans h1_) (by decide),fun _ h1_=>absurd ((hon 7 (by kernel_rfl)).symm.trans h1_) (by decide),fun _ h1_=>absurd ((hon 8 (by kernel_rfl)).symm.trans h1_) (by decide),Q_N1,Q_N2,Q_FM,fun _ h1_=>absurd ((aBq b 10).symm.trans h1_) (by decide),Q_G10,fun _=>(F10.out.row m37),Q_X8_,Q_X9_⟩
    exact bbq
   rintro b a w' hall ⟨v29,v34,v35,v36,m37,g10,m8_,m9_,ha,Q_HB,Q_HA,Q_HRR,Q_F29,Q_F34,Q_F35,Q_F36,Q_N1,Q_N2,Q_FM,Q_F10,Q_G10,Q_H10,Q_X8_,Q_X9_⟩
   clear HA HB HRR
   have hb0_:=hall 0 (by kernel_rfl)
   have hb5_:=hall 5 (by kernel_rfl)
   have hb6_:=hall 6 (by kernel_rfl)
   have hb7_:=hall 7 (by kernel_rfl)
   have hb8_:=hall 8 (by kernel_rfl)
   have hb9_:=hall 9 (by kernel_rfl)
   have hb10_:=hall 10 (by kernel_rfl)
   subst ha
   obtain rfl:=Q_X8_ hb8_
   obtain rfl:=Q_X9_ hb9_
   simp only [awk,hb0_,hb5_,hb6_,hb7_,hb8_,hb9_,hb10_,if_true,Act.put,List.setIfInBounds_toArray,List.set_cons_zero,List.set_cons_succ]
   have HB:=Qz.k Q_HB
   clear Q_HB
   have HA:=Qz.k Q_HA
   clear Q_HA
   have HRR:=Qz.k Q_HRR
   clear Q_HRR
   clear Q_F29
   clear Q_F34
   clear Q_F35
   clear Q_F36
   have N1:=Qz.k (Q_N1 hb6_)
   clear Q_N1
   have N2:=Qz.k (Q_N2 hb6_)
   clear Q_N2
   have FM:=Qz.k (Q_FM hb8_)
   clear Q_FM
   clear Q_F10
   have G10:=Qz.k (Q_G10 hb9_)
   clear Q_G10
   have H10:=Qz.k (Q_H10 hb10_)
   clear Q_H10
   clear hall hb0_ hb5_ hb6_ hb7_ hb8_ hb9_ hb10_
   have HLM:=Qz.k FM.out
   go_upto_region 10 with(fail)
   refine axq (n:=6) (S:=fun w'=>(Instr.loadAt 216 (.pointer (some ⟨g7,0,none⟩))).run Tryz.prog w'=.ok (.agg (arrV .u64 la)) w'∧(Instr.loadAt 216 (.pointer (some ⟨g10,0,none⟩))).run Tryz.prog w'=.ok (.agg (arrV .u64 m37)) w'∧(Instr.loadAt 216 (.pointer (some ⟨g6,0,none⟩))).run Tryz.prog w'=.ok (.agg (arrV .u64 lr)) w') (ds:=[5]) (bl 6 0) (by kernel_rfl) rfl rfl ⟨Arr.load HA.out.drew Tryz.underlying216 (amk la HLA.out),Arr.load H10.out.drew Tryz.underlying216 (amk m37 FM.out),Arr.load HRR.out.drew Tryz.underlying216 (amk lr HLR.out)⟩ (fun hHeld=>?_)
   refine tk_ 0 38 ?_ ?_ (bl 6 1) rfl rfl (by kernel_rfl) hHeld ?_ ?_ ?_
   rotate_left 2
   ·rintro w' ⟨s0,s1,s2⟩;refine Eq.trans (a3q (v := .agg (arrV .u64 la)) 216 (.tmp 7) (.pointer (some ⟨g7,0,none⟩)) ?_ ?_ s0) ?_ <;> rfl
   ·simp only [Act.put,putA,putZ,putS,abq,abk];rfl
   refine tk_ 1 39 ?_ ?_ (bl 6 3) rfl rfl (by kernel_rfl) hHeld ?_ ?_ ?_
   rotate_left 2
   ·rintro w' ⟨s0,s1,s2⟩;refine Eq.trans (a3q (v := .agg (arrV .u64 m37)) 216 (.tmp 10) (.pointer (some ⟨g10,0,none⟩)) ?_ ?_ s1) ?_ <;> rfl
   ·simp only [Act.put,putA,putZ,putS,abq,abk];rfl
   refine tk_ 3 41 ?_ ?_ (bl 6 11) rfl rfl (by kernel_rfl) hHeld ?_ ?_ ?_
   rotate_left 2
   ·rintro w' ⟨s0,s1,s2⟩;refine Eq.trans (a3q (v := .agg (arrV .u64 lr)) 216 (.tmp 6) (.pointer (some ⟨g6,0,none⟩)) ?_ ?_ s2) ?_ <;> rfl
   ·simp only [Act.put,putA,putZ,putS,abq,abk];rfl
   refine one_ (i:=2) (N:=some 40) (bl 6 15) rfl rfl (by kernel_rfl) (by decide) (fun K hK=>?_)
   refine aFq Tryz.func207 (by kernel_rfl) rfl #[.agg (arrV .u64 la),.agg (arrV .u64 m37)] (by rfl) rfl rfl (by simp only [List.map_toArray,List.map_cons,List.map_nil];first|done|rfl) ?_
   with_reducible refine(poly_num_plus.calls la m37 HLA.out FM.out _).mono ?_
   rintro e w8 ⟨rfl,hb⟩
   refine⟨_,rfl,?_⟩
   have FB8:=Qz.k (aaz (aez HB.out) hb)
   have FA8:=Qz.k (Arr.below HA.out.drew hb)
   have FR8:=Qz.k (Arr.below HRR.out.drew hb)
   have F108:=Qz.k (Arr.below H10.out.drew hb)
   clear hb
   refine hK.out _ _ ⟨Arr.load FA8.out Tryz.underlying216 (amk la HLA.out),Arr.load F108.out Tryz.underlying216 (amk m37 FM.out),Arr.load FR8.out Tryz.underlying216 (amk lr HLR.out)⟩ (fun hHeld=>?_)
   clear hK K
   refine aHz (a':=?_) ?_ ?_
   rotate_left
   ·show Act.put _ (some 40) _=_
    simp only [Act.put,putA,putZ,putS,abq,abk]
    rfl
   refine one_ (i:=4) (N:=some 42) (bl 6 31) rfl rfl (by kernel_rfl) (by decide) (fun K hK=>?_)
   refine aFq Tryz.func208 (by kernel_rfl) rfl #[.agg (arrV .u64 (plus la m37)),.agg (arrV .u64 lr)] (by rfl) rfl rfl (by simp only [List.map_toArray,List.map_cons,List.map_nil];first|done|rfl) ?_
   with_reducible refine(poly_num_times.calls (plus la m37) lr ((plus_len _ _).trans HLA.out) HLR.out _).mono ?_
   rintro e w9 ⟨u,rfl,hu,hb⟩
   refine⟨_,rfl,?_⟩
   have HU9:=Qz.k hu
   have FB9:=Qz.k (aaz FB8.out hb)
   have FA9:=Qz.k (Arr.below FA8.out hb)
   have FR9:=Qz.k (Arr.below FR8.out hb)
   have F109:=Qz.k (Arr.below F108.out hb)
   clear hb hu
   refine hK.out _ _ ⟨Arr.load FA9.out Tryz.underlying216 (amk la HLA.out),Arr.load F109.out Tryz.underlying216 (amk m37 FM.out),Arr.load FR9.out Tryz.underlying216 (amk lr HLR.out)⟩ (fun hHeld=>?_)
   clear hK K
   refine aHz (a':=?_) ?_ ?_
   rotate_left
   ·show Act.put _ (some 42) _=_
    simp only [Act.put,putA,putZ,putS,abq,abk]
    rfl
   refine bdz (i:=5) (N:=none) (bl 6 63) rfl rfl (by kernel_rfl) (by decide) (fun K hK=>?_)
   refine bbk (w1:=w9.setRow g7 (arrV .u64 u)) (by rfl) rfl ?_ ?_
   ·refine aSq 216 (.tmp 7) (.tmp 42) (.pointer (some ⟨g7,0,none⟩)) (.agg (arrV .u64 u)) ?_ ?_ ?_ (FA9.out.storeAt (amk u HU9.out) (by rw [HLA.out,HU9.out])) <;> rfl
   refine hK.out _ _ ?_
   clear hK K
   refine aPz (by kernel_rfl) ?_
   have HA9:=Qz.k (Arr.row FA9.out u)
   have HR9:=Qz.k (FR9.out.aTz (Ne.symm NEg7g6.out) (arrV .u64 u))
   have HB9:=Qz.k (anz (c:=arrV .u64 u) FB9.out GEg7.out)
   generalize w9.setRow g7 (arrV .u64 u)=wz at *
   clear HA HRR HB H10 FA8 FR8 FB8 F108 FA9 FR9 FB9 F109
   go_wp2
   go_roundg (bs.length+16-(k+16))
   case measure=>exact(by omega)
   case rel=>
    (try rw [HW.out])
    exact⟨k+16,u,rfl,rfl,by omega,HU9,HA9,HR9,HB9⟩
  ·have c3:decide ((k:Int)<(bs.length:Int))=false:=decide_eq_false (by omega)
   have c4:decide (k<bs.length)=false:=decide_eq_false hlt
   go_wp2_with (first
    |(refine ayk 216 (.tmp 7) rfl rfl rfl HA.out Tryz.underlying216 (amk la HLA.out) ?_))
   refine(poly_num_whole.calls la HLA.out _).mono ?_
   rintro e w8 ⟨lb,rfl,hlb,hb⟩
   have HLB:=Qz.k hlb
   have HA8:=Qz.k (Arr.below HA.out hb)
   have HB8:=Qz.k (aaz HB.out hb)
   clear hlb hb HA HRR HB
   go_wp2_with (first
    |(refine arq (g:=g7) (l':=lb) 216 (.tmp 7) (.tmp 44) rfl rfl rfl rfl rfl HA8.out (amk lb HLB.out) (by rw [HLB.out,HLA.out]) ?_;have HA9:=Qz.k (Arr.row HA8.out lb);have HB9:=Qz.k (anz (c:=arrV .u64 lb) HB8.out GEg7.out);clear HA8 HB8;generalize w8.setRow g7 (arrV .u64 lb)=w9 at *))
   refine(HOS.out _ HB9.out).mono ?_
   rintro e w10 ⟨ls,rfl,hls,hb⟩
   have HLS:=Qz.k hls
   have HA10:=Qz.k (Arr.below HA9.out hb)
   have HB10:=Qz.k (aaz HB9.out hb)
   clear hls hb HA9 HB9
   go_upto_region 13 with(first
    |((with_reducible refine ahk (N:=11) rfl ?_);refine aik ?hg (N:=11) ?hd (cs:=arrV .u64 (List.replicate 5 0)) (t:=216) ?hr ?_;(case hd=>rfl);(case hg=>rfl);(case hr=>first|(go_simp;done)|(go_simp;rfl));intro g11 hg w11 hbox hb;have HZ11:=Qz.k (show Arr w11 g11 216 .u64 (List.replicate 5 0)from hbox);have GEg11:=Qz.k (show w.heap.size≤g11 from by rw [hg];exact HB10.out.size);have HB11:=Qz.k (aaz HB10.out hb);have NEg11g7:=Qz.k (show g11≠g7 from by rw [hg];exact Nat.ne_of_gt HA10.out.lt);have HA11:=Qz.k (Arr.below HA10.out hb);clear hbox hb hg HB10 HA10)
    |(refine arq (g:=g11) (l':=ls) 216 (.tmp 11) (.tmp 47) rfl rfl rfl rfl rfl HZ11.out (amk ls HLS.out) (by rw [HLS.out];rfl) ?_;have HZ12:=Qz.k (Arr.row HZ11.out ls);have HA12:=Qz.k (HA11.out.aTz (Ne.symm NEg11g7.out) (arrV .u64 ls));have HB12:=Qz.k (anz (c:=arrV .u64 ls) HB11.out GEg11.out);clear HA11 HZ11 HB11;generalize w11.setRow g11 (arrV .u64 ls)=w12 at *))
   go_wp2
   go_loopg [12,48] 5 (fun kq v12 v48 W'=>∃ (k:Nat) (l:List Int),v48=.int .i64 (k:Int)∧kq=5-k∧k≤5∧Qz (l.length=5)∧Qz (Arr W' g7 216 .u64 l)∧Qz (Arr W' g11 216 .u64 ls)∧Qz (Below w.heap.size w W'))
   case atStart=>exact⟨0,lb,rfl,rfl,by omega,HLB,HA12,HZ12,HB12⟩
   case round=>
    clear HA12 HZ12 HB12 hk hlt c3 c4
    obtain⟨k,l,rfl,rfl,hk,HLQ,HA,HZ,HB⟩:=hrel
    by_cases hlt:k<5
    ·have c3:decide ((k:Int)<5)=true:=decide_eq_true (by omega)
     have c4:decide (k<5)=true:=decide_eq_true hlt
     have n5:(k:Int)<5:=by omega
     have HW:=Qz.k (show wrap64 ((k:Int)+1)=((k+1:Nat):Int)from by rw [agq (by omega) (by omega)];omega)
     have hcx:wr.cell? ⟨g7,k,none⟩=some (.int .u64 (rd l (k:Int))):=HA.out.cell (by have:=HLQ.out;omega)
     have hcy:wr.cell? ⟨g11,k,none⟩=some (.int .u64 (rd ls (k:Int))):=HZ.out.cell (by have:=HLS.out;omega)
     have hfx:=HA.out.froz k
     generalize rd l (k:Int)=y at *
     generalize rd ls (k:Int)=z at *
     go_upto_region 16 with(fail)
     refine axq (n:=9) (S:=fun w'=>w'.cell? ⟨g7,k,none⟩=some (.int .u64 y)∧w'.cell? ⟨g11,k,none⟩=some (.int .u64 z)) (ds:=[8]) (bl 9 0) (by kernel_rfl) rfl rfl ⟨hcx,hcy⟩ (fun hHeld=>?_)
     refine pu_ 0 51 ?_ ?_ (bl 9 1) rfl rfl (by kernel_rfl) ?_ ?_ ?_
     rotate_left 2
     ·intro w';go_simp;with_reducible rfl
     ·simp only [Act.put,putA,putZ,putS,abq,abk];rfl
     refine pu_ 1 52 ?_ ?_ (bl 9 3) rfl rfl (by kernel_rfl) ?_ ?_ ?_
     rotate_left 2
     ·intro w';go_simp;with_reducible rfl
     ·simp only [Act.put,putA,putZ,putS,abq,abk];rfl
     refine pu_ 3 54 ?_ ?_ (bl 9 11) rfl rfl (by kernel_rfl) ?_ ?_ ?_
     rotate_left 2
     ·intro w';go_simp;with_reducible rfl
     ·simp only [Act.put,putA,putZ,putS,abq,abk];rfl
     refine pu_ 4 55 ?_ ?_ (bl 9 27) rfl rfl (by kernel_rfl) ?_ ?_ ?_
     rotate_left 2
     ·intro w';go_simp;with_reducible rfl
     ·simp only [Act.put,putA,putZ,putS,abq,abk];rfl
     refine tk_ 2 53 ?_ ?_ (bl 9 31) rfl rfl (by kernel_rfl) hHeld ?_ ?_ ?_
     rotate_left 2
     ·rintro w' ⟨s0,s1⟩;go_simp;with_reducible rfl
     ·simp only [Act.put,putA,putZ,putS,abq,abk];rfl
     refine tk_ 5 56 ?_ ?_ (bl 9 63) rfl rfl (by kernel_rfl) hHeld ?_ ?_ ?_
     rotate_left 2
     ·rintro w' ⟨s0,s1⟩;go_simp;with_reducible rfl
     ·simp only [Act.put,putA,putZ,putS,abq,abk];rfl
     refine pu_ 6 57 ?_ ?_ (bl 9 127) rfl rfl (by kernel_rfl) ?_ ?_ ?_
     rotate_left 2
     ·intro w';go_simp;with_reducible rfl
     ·simp only [Act.put,putA,putZ,putS,abq,abk];rfl
     refine pu_ 7 58 ?_ ?_ (bl 9 255) rfl rfl (by kernel_rfl) ?_ ?_ ?_
     rotate_left 2
     ·intro w';go_simp;with_reducible rfl
     ·simp only [Act.put,putA,putZ,putS,abq,abk];rfl
     refine bdz (i:=8) (N:=none) (bl 9 511) rfl rfl (by kernel_rfl) (by decide) (fun K hK=>?_)
     refine bbk (w1:=?_) (by rfl) rfl ?_ ?_
     rotate_left
     ·go_simp
      rfl
     refine hK.out _ _ ?_
     clear hK K
     refine aPz (by kernel_rfl) ?_
     go_wp2
     go_roundg (5-(k+1))
     case measure=>exact(by omega)
     case rel=>
      (try rw [HW.out])
      exact⟨k+1,l.set k (IntKind.u64.wrap (y+z)),rfl,rfl,by omega,⟨by rw [List.length_set,HLQ.out]⟩,⟨(Arr.drew HA.out).put k _⟩,⟨(Arr.drew HZ.out).far NEg11g7.out _⟩,⟨adq (aez HB.out) GEg7.out⟩⟩
    ·have c3:decide ((k:Int)<5)=false:=decide_eq_false (by omega)
     have c4:decide (k<5)=false:=decide_eq_false hlt
     go_wp2_with (first
      |(refine ayk 216 (.tmp 7) rfl rfl rfl HA.out Tryz.underlying216 (amk l HLQ.out) ?_))
     refine(poly_num_bytes.calls l HLQ.out _).mono ?_
     rintro e w20 ⟨v20,r20,rfl,hr,ho,hb⟩
     have HR20:=Qz.k (Kd.aiq ho HB.out.size)
     have HB20:=Qz.k (aaz HB.out hb)
     have HRL:=Qz.k hr
     clear ho hb hr
     go_wp2
     go_ret2
     exact⟨_,_,rfl,HRL.out,HR20.out,HB20.out⟩
end Go.Proofs.YthggdomocichdaaGreatDoor.P
namespace Go.Proofs.YthggdomocichdaaGreatDoor.P
open Go.RowKit Go.Proofs.YthggdomocichdaaGreatDoor.Kit Go.Proofs.YthggdomocichdaaGreatDoorW.PrintWords Go.Proofs.YthggdomocichdaaGreatDoorW.PrintLast Go.Proofs.YthggdomocichdaaGreatDoorW.PrintMore
set_option maxHeartbeats 2000000 in
theorem aead_tag.calls (A0:Option Addr)(c0:Nat)(key:List Int)(A1:Option Addr)(c1:Nat)(nonce:List Int)(A2:Option Addr)(c2:Nat)(ad:List Int)(A3:Option Addr)(c3:Nat)(c:List Int)(w:World)(hr0:Kd.C (Kd.int .u8) w A0 key.length key)(hc0:key.length≤c0)(hk:key.length=32)(hr1:Kd.C (Kd.int .u8) w A1 nonce.length nonce)(hc1:nonce.length≤c1)(hn:nonce.length=12)
  (hr2:Kd.C (Kd.int .u8) w A2 ad.length ad) (hc2:ad.length≤c2) (ha:ad.length<16777216∧ad.length%16=0∧By ad) (hr3:Kd.C (Kd.int .u8) w A3 c.length c) (hc3:c.length≤c3) (hc:c.length<16777216∧c.length%16=0∧By c) :
  Calls Tryz.prog 112 #[.slice A0 key.length c0,.slice A1 nonce.length c1,.slice A2 ad.length c2,.slice A3 c.length c3] w fun e w'=>∃ (v0_:Value) (r:List Int),e=.returned (.tuple #[v0_,.int .i64 0])∧r.length=16∧Kd.R (Kd.int .u8) 5 w' w.heap.size (fun _=>True) v0_ r∧Below w.heap.size w w':=by
 have HBK:=Qz.k (chacha_Block.calls A0 c0 key 0 A1 c1 nonce w hr0 hc0 hk hr1 hc1 hn)
 have HR2:=Qz.k hr2
 have HC2:=Qz.k hc2
 have HA:=Qz.k ha
 have HR3:=Qz.k hr3
 have HC3:=Qz.k hc3
 have HC:=Qz.k hc
 clear hr0 hc0 hk hr1 hc1 hn hr2 hc2 ha hr3 hc3 hc
 go_enter Tryz.func112,Tryz.ntmps112
 go_wp2_with (fail)
 refine HBK.out.mono ?_
 rintro e w4 ⟨v4,on,rfl,hl,hby,ho,hb⟩
 obtain⟨ad4,c4,e4⟩:=Kd.a0k ho (by omega)
 subst e4
 have HO4:=Qz.k ho
 have HB4:=Qz.k hb
 have HL4:=Qz.k hl
 have HY4:=Qz.k hby
 clear hl hby ho hb HBK
 go_wp2_with (fail)
 refine(aead_low_weak.calls _ _).mono ?_
 rintro e w5 ⟨v5,l1,rfl,hl,hby,ho,hb⟩
 have HO5:=Qz.k (Kd.ahz HO4.out hb)
 have HB5:=Qz.k (aaz HB4.out hb)
 have HP5:=Qz.k (Kd.aiq ho HB4.out.size)
 have HN5:=Qz.k (bgk (v1:=v5) (v2 := .slice (some ad4) on.length c4) (n:=w4.heap.size) (fun k hk=>((Kd.axz ho).1 k hk).2.1) (fun k hk=>Kd.R_lt HO4.out k hk))
 have HL5:=Qz.k hl
 have HY5:=Qz.k hby
 clear hl hby ho hb HO4 HB4
 go_wp2_with (fail)
 refine(aead_low_weak.calls _ _).mono ?_
 rintro e w6 ⟨v6,l2,rfl,hl,hby,ho,hb⟩
 obtain⟨A6,c6,e6⟩:=Kd.afz ho
 subst e6
 have HO6:=Qz.k (Kd.ahz HO5.out hb)
 have HB6:=Qz.k (aaz HB5.out hb)
 have HP6:=Qz.k (Kd.ahz HP5.out hb)
 have HQ6:=Qz.k ho
 have HL6:=Qz.k hl
 have HY6:=Qz.k hby
 clear hl hby ho hb HO5 HB5 HP5
 obtain⟨LL,hLL⟩:∃ LL,l1++l2=LL:=⟨_,rfl⟩
 have HLL:=Qz.k hLL
 have HLN:=Qz.k (show LL.length=16 from by rw [←hLL,List.length_append,HL5.out,HL6.out])
 have HLB:=Qz.k (show By LL from by rw [←hLL];exact HY5.out.app HY6.out)
 clear hLL
 go_wp2_with (first
  |((with_reducible refine agk (b := .append) (xs:=#[.tmp 26,.tmp 29]) rfl ?_);at_builtin;refine Kd.ahq (Kd.int .u8) (w0:=w) w.heap.size rfl (.tmp 26) (.tmp 29) 27 5 (.int .u8 0) 1 rfl Tryz.underlying27 info5 rfl (by decide) (by omega) v5 l1 l2 _ _ _ (fun _=>True) (fun _=>False) rfl rfl HP6.out (Kd.ack HQ6.out).2.2 (fun _ _ h=>h) (fun _ h=>h.elim) (fun _ _=>trivial) HB6.out HB6.out.size (by rw [HL5.out,HL6.out];decide) ?_;intro v30 w7 ho hb hg hat;rw [HLL.out]at ho;obtain⟨A7,c7,e7⟩:=Kd.afz ho;subst e7;have HB7:=Qz.k hb;have HP7:=Qz.k ho;have HO7:=Qz.k (Kd.R_grown2 HO6.out rfl hg (fun k hk=>atom_of HN5.out hk));clear ho hb hg hat))
 have HBA:=Qz.k (aaq HB7.out (.cells #[.slice A2 ad.length c2,.slice A3 c.length c3,.slice A7 LL.length c7] 27))
 have HBN:=Qz.k (aaq (Below.refl w7.heap.size w7) (.cells #[.slice A2 ad.length c2,.slice A3 c.length c3,.slice A7 LL.length c7] 27))
 have HI:=Qz.k (bJz (W:=w7.alloc (.cells #[.slice A2 ad.length c2,.slice A3 c.length c3,.slice A7 LL.length c7] 27)) (g:=w7.heap.size) ((aak (akz w7 _) 0).trans rfl) HC2.out (Kd.acz HR2.out HBA.out) ((aak (akz w7 _) 1).trans rfl) HC3.out (Kd.acz HR3.out HBA.out) ((aak (akz w7 _) 2).trans rfl) (Kd.ack HP7.out).2.1 (Kd.acz (Kd.ack HP7.out).2.2 HBN.out))
 have HF:=Qz.k (show ∀ (w1:World) (A:Option Addr),Kd.C (Kd.slice 5 (Kd.int .u8)) w1 A 3 [ad,c,LL]→Calls Tryz.prog 164 #[.slice A 3 3] w1 fun e w'=>∃ (v0_:Value) (r:List Int),e=.returned v0_∧r.length<67108864∧By r∧Kd.R (Kd.int .u8) 5 w' w1.heap.size (fun _=>True) v0_ r∧Below w1.heap.size w1 w' from fun w1 A h=>aead_filled_weak.calls A 3 [ad,c,LL] w1 h rfl (fun x hx=>by
  simp only [List.mem_cons,List.not_mem_nil,or_false]at hx
  rcases hx with rfl|rfl|rfl
  ·exact HA.out
  ·exact HC.out
  ·exact⟨by rw [HLN.out];decide,by rw [HLN.out],HLB.out⟩))
 refine(HF.out _ _ HI.out).mono ?_
 rintro e w9 ⟨v9,r9,rfl,hl,hby,ho,hb⟩
 obtain⟨A9,c9,e9⟩:=Kd.afz ho
 subst e9
 have HP9:=Qz.k ho
 have HO9:=Qz.k (Kd.ahz (Kd.ahz HO7.out HBN.out) hb)
 have HB9:=Qz.k (aaz HBA.out hb)
 have HL9:=Qz.k hl
 have HY9:=Qz.k hby
 clear hl hby ho hb HF HI HBA HBN
 have HTL:=Qz.k (show(on.take 32).length=32 from by rw [List.length_take,HL4.out];rfl)
 have HMC:=Qz.k (poly_MAC.calls (some ad4) c4 (on.take 32) A9 c9 r9 w9 (Kd.C_take (Kd.ack HO9.out).2.2 (by rw [HL4.out];decide)) (by have:=(Kd.ack HO9.out).2.1;rw [HL4.out]at this;rw [HTL.out];omega) HTL.out (HY4.out.take 32) (Kd.ack HP9.out).2.2 (Kd.ack HP9.out).2.1 (by have:=HL9.out;omega) HY9.out)
 rw [HTL.out]at HMC
 have n1:(32:Int)≤(c4:Int):=by have:=(Kd.ack HO9.out).2.1;rw [HL4.out]at this;omega
 have n2:32≤c4:=by omega
 go_wp2_with (fail)
 refine HMC.out.mono ?_
 rintro e w10 ⟨v10,r10,rfl,hl,ho,hb⟩
 have HR10:=Qz.k (Kd.aiq ho HB9.out.size)
 have HB10:=Qz.k (aaz HB9.out hb)
 have HL10:=Qz.k hl
 clear hl ho hb HMC
 go_wp2
 go_ret2
 exact⟨_,_,rfl,HL10.out,HR10.out,HB10.out⟩
set_option maxHeartbeats 2000000 in
theorem aead_Seal.calls (A0:Option Addr)(c0:Nat)(key:List Int)(A1:Option Addr)(c1:Nat)(nonce:List Int)(A2:Option Addr)(c2:Nat)(ad:List Int)(A3:Option Addr)(c3:Nat)(b:List Int)(w:World)(hr0:Kd.C (Kd.int .u8) w A0 key.length key)(hc0:key.length≤c0)(hk:key.length=32)(hr1:Kd.C (Kd.int .u8) w A1 nonce.length nonce)(hc1:nonce.length≤c1)(hn:nonce.length=12)
  (hr2:Kd.C (Kd.int .u8) w A2 ad.length ad) (hc2:ad.length≤c2) (ha:ad.length<16777216∧ad.length%16=0∧By ad) (hr3:Kd.C (Kd.int .u8) w A3 b.length b) (hc3:b.length≤c3) (hb:0<b.length∧b.length<16777216∧b.length%16=0) :
  Calls Tryz.prog 88 #[.slice A0 key.length c0,.slice A1 nonce.length c1,.slice A2 ad.length c2,.slice A3 b.length c3] w fun e w'=>∃ (v0_:Value) (r:List Int),e=.returned (.tuple #[v0_,.int .i64 0])∧r.length=b.length+16∧Kd.R (Kd.int .u8) 5 w' w.heap.size (fun _=>True) v0_ r∧Below w.heap.size w w':=by
 have HST:=Qz.k (chacha_Stream.calls A0 c0 key A1 c1 nonce A3 c3 b w hr0 hc0 hk hr1 hc1 hn hr3 hc3 hb.1 (by omega))
 have HTG:=Qz.k (fun(w1:World) (A:Option Addr) (q:Nat) (c:List Int) (h:Below w.heap.size w w1) (hr:Kd.C (Kd.int .u8) w1 A c.length c) (hq:c.length≤q) (hc:c.length=b.length) (hby:By c)=>aead_tag.calls A0 c0 key A1 c1 nonce A2 c2 ad A q c w1 (Kd.acz hr0 h) hc0 hk (Kd.acz hr1 h) hc1 hn (Kd.acz hr2 h) hc2 ha hr hq ⟨by rw [hc];exact hb.2.1,by rw [hc];exact hb.2.2,hby⟩)
 have HBL:=Qz.k hb.2.1
 clear hr0 hc0 hk hr1 hc1 hn hr2 hc2 ha hr3 hc3 hb
 go_enter Tryz.func88,Tryz.ntmps88
 go_wp2_with (fail)
 refine HST.out.mono ?_
 rintro e w4 ⟨v4,r4,rfl,hl,hby,ho,hb⟩
 obtain⟨A4,c4,e4⟩:=Kd.afz ho
 subst e4
 have HO4:=Qz.k ho
 have HB4:=Qz.k hb
 have HL4:=Qz.k hl
 have HTC:=Qz.k (HTG.out w4 A4 c4 r4 hb (Kd.ack ho).2.2 (Kd.ack ho).2.1 hl hby)
 clear hl hby ho hb HST HTG
 go_wp2_with (fail)
 refine HTC.out.mono ?_
 rintro e w5 ⟨v5,r5,rfl,hl,ho,hb⟩
 obtain⟨A5,c5,e5⟩:=Kd.afz ho
 subst e5
 have HO5:=Qz.k (Kd.ahz HO4.out hb)
 have HB5:=Qz.k (aaz HB4.out hb)
 have HP5:=Qz.k ho
 have HL5:=Qz.k hl
 clear hl ho hb HO4 HB4 HTC
 go_wp2_with (first
  |((with_reducible refine agk (b := .append) (xs:=#[.tmp 31,.tmp 32]) rfl ?_);at_builtin;refine Kd.ahq (Kd.int .u8) (w0:=w) w.heap.size rfl (.tmp 31) (.tmp 32) 27 5 (.int .u8 0) 1 rfl Tryz.underlying27 info5 rfl (by decide) (by omega) _ r4 r5 _ _ _ (fun _=>True) (fun _=>False) rfl rfl HO5.out (Kd.ack HP5.out).2.2 (fun _ _ h=>h) (fun _ h=>h.elim) (fun _ _=>trivial) HB5.out HB5.out.size (by rw [HL4.out,HL5.out];have:=HBL.out;omega) ?_;intro v6 w6 ho hb hg hat;have HB6:=Qz.k hb;have HO6:=Qz.k ho;clear ho hb hg hat))
 go_ret2
 exact⟨_,_,rfl,by rw [List.length_append,HL4.out,HL5.out],HO6.out,HB6.out⟩
end Go.Proofs.YthggdomocichdaaGreatDoor.P
namespace Go.Proofs.YthggdomocichdaaGreatDoor.P
open Go.RowKit Go.Proofs.YthggdomocichdaaGreatDoor.Kit Go.Proofs.YthggdomocichdaaGreatDoor.Var Go.Proofs.YthggdomocichdaaGreatDoorW.PrintWords Go.Proofs.YthggdomocichdaaGreatDoorW.PrintLast Go.Proofs.YthggdomocichdaaGreatDoorW.PrintMore
theorem sizeP_16 (k:Int)(h0:0≤k)(h8:k≤8):(aOz k).toNat%16=0:=by
 rw [bDq]
 obtain rfl|rfl|rfl|rfl|rfl|rfl|rfl|rfl|rfl:k=0∨k=1∨k=2∨k=3∨k=4∨k=5∨k=6∨k=7∨k=8:=by omega
 all_goals decide
theorem padP_full {E:List Int}(h:E.length≤4194300):(padP E).2=0∧(padP E).1.length=(aOz (arz (E.length:Int)).1).toNat∧0<(padP E).1.length∧(padP E).1.length<16777216∧(padP E).1.length%16=0:=by
 have hb:=aXk (E.length:Int) (by omega) (by omega)
 have h16:=sizeP_16 _ hb.2.1 hb.2.2.1
 have hl:(padP E).1.length=(aOz (arz (E.length:Int)).1).toNat:=by
  rw [padP,if_neg (by omega)]
  simp only [List.length_append,List.length_replicate,ank]
  omega
 refine⟨by rw [padP,if_neg (by omega)],hl,?_,?_,?_⟩
 ·omega
 ·omega
 ·rw [hl];exact h16
set_option maxHeartbeats 4000000 in
theorem archive_Seal.calls (A0:Option Addr)(c0:Nat)(t:List Int)(ver:Int)(i:Nat)(s:ByteArray)(A1:Option Addr)(n1 c1:Nat)(E:List Int)(w:World)(hr0:Kd.C (Kd.int .u8) w A0 t.length t)(hc0:t.length≤c0)(hk:t.length=32)(hi:i<1048576)(hs:s.size=3)(hE:E.length≤4194300)
  (hEnc:∀ w1:World,Below w.heap.size w w1→Calls Tryz.prog 14 #[.agg #[.string s,.slice A1 n1 c1]] w1 fun e w'=>∃ v,e=.returned (.tuple #[v,.int .i64 0])∧Kd.R (Kd.int .u8) 5 w' w1.heap.size (fun _=>True) v E∧Below w1.heap.size w1 w') :
  Calls Tryz.prog 47 #[.slice A0 t.length c0,.int .u64 ver,.int .i64 (i:Int),.agg #[.string s,.slice A1 n1 c1]] w fun e w'=>∃ (v:Value) (r:List Int),e=.returned (.tuple #[v,.int .i64 (arz (E.length:Int)).1,.int .i64 0])∧r.length=(aOz (arz (E.length:Int)).1).toNat+16∧Kd.R (Kd.int .u8) 5 w' w.heap.size (fun _=>True) v r∧Below w.heap.size w w':=by
 have HBO:=Qz.k (fun(w1:World) (h:Below w.heap.size w w1)=>place_both.calls A0 c0 t ver i w1 (Kd.acz hr0 h) hc0 hk hi)
 have HBS:=Qz.k (fun(w1:World)=>place_beside.calls A0 t.length c0 ver i s w1 hi (by omega))
 have HEN:=Qz.k hEnc
 have HPF:=Qz.k (padP_full hE)
 have HPD:=Qz.k (fun(w1:World) (A:Option Addr) (c:Nat) hr hc=>pad_Pad.calls A c E (padP E).1 (padP E).2 w1 hr hc (by rw [pad_Pad.f,if_pos (by omega)]))
 rw [HPF.out.1]at HPD
 have HBU:=Qz.k (fun(w1:World)=>pad_Bucket.calls (E.length:Int) (arz (E.length:Int)).1 (arz (E.length:Int)).2 w1 rfl)
 have HEL:=Qz.k hE
 have HAD:=Qz.k (besideOf_len ver (i:Int) s hs)
 have HAB:=Qz.k (besideOf_by ver (i:Int) s)
 have HDL:=Qz.k (aXq t 2 aEz)
 generalize derived t 2 aEz=D at *
 generalize (padP E).1=FU at *
 generalize (arz (E.length:Int)).2=bz at *
 generalize (arz (E.length:Int)).1=bk at *
 generalize a7z ver (i:Int) s=AD at *
 clear hr0 hc0 hk hi hs hE hEnc
 go_enter Tryz.func47,Tryz.ntmps47
 go_wp2_with (fail)
 obtain⟨W1,hW1⟩:∃ W1,w.alloc (.cells #[.string s,.slice A1 n1 c1] 43)=W1:=⟨_,rfl⟩
 obtain⟨W2,hW2⟩:∃ W2,W1.alloc (.cells #[.slice A0 t.length c0,.int .u64 ver,.int .i64 (i:Int)] 107)=W2:=⟨_,rfl⟩
 rw [hW1,hW2]
 have s1:W1.heap.size=w.heap.size+1:=by rw [←hW1,World.size_alloc]
 have b12:Below W1.heap.size W1 W2:=by rw [←hW2];exact aaq (Below.refl _ _) _
 have b01:Below w.heap.size w W1:=by rw [←hW1];exact aaq (Below.refl _ _) _
 have HB2:=Qz.k (aaz b01 b12)
 have HC:=Qz.k (show W2.cell? ⟨w.heap.size,0,none⟩=some (.string s)∧W2.cell? ⟨w.heap.size,1,none⟩=some (.slice A1 n1 c1)from⟨abz b12 (by rw [←hW1];exact(aak (akz w _) 0).trans rfl),abz b12 (by rw [←hW1];exact(aak (akz w _) 1).trans rfl)⟩)
 have HP:=Qz.k (show W2.cell? ⟨w.heap.size+1,0,none⟩=some (.slice A0 t.length c0)∧W2.cell? ⟨w.heap.size+1,1,none⟩=some (.int .u64 ver)∧W2.cell? ⟨w.heap.size+1,2,none⟩=some (.int .i64 (i:Int))from⟨by rw [←hW2,←s1];exact(aak (akz W1 _) 0).trans rfl,by rw [←hW2,←s1];exact(aak (akz W1 _) 1).trans rfl,by rw [←hW2,←s1];exact(aak (akz W1 _) 2).trans rfl⟩)
 clear hW1 hW2 s1 b12 b01
 refine(HBO.out _ HB2.out).mono ?_
 rintro e w3 ⟨vk,vn,nn,rfl,hn,hk,ho,hb⟩
 obtain⟨Ak,ck,ek⟩:=Kd.afz hk
 obtain⟨An,cn,en⟩:=Kd.afz ho
 subst ek
 subst en
 have HN:=Qz.k hn
 have HK3:=Qz.k (Kd.aiq hk HB2.out.size)
 have HO3:=Qz.k (Kd.aiq ho HB2.out.size)
 have HB3:=Qz.k (aaz HB2.out hb)
 have hc1:=abz hb HC.out.1
 have hc2:=abz hb HC.out.2
 have HP3:=Qz.k (show w3.cell? ⟨w.heap.size+1,0,none⟩=some (.slice A0 t.length c0)∧w3.cell? ⟨w.heap.size+1,1,none⟩=some (.int .u64 ver)∧w3.cell? ⟨w.heap.size+1,2,none⟩=some (.int .i64 (i:Int))from⟨abz hb HP.out.1,abz hb HP.out.2.1,abz hb HP.out.2.2⟩)
 clear hn hk ho hb HB2 HC HP
 go_wp2_with (fail)
 have HC3:=Qz.k hc1
 clear hc1 hc2
 refine(HEN.out _ HB3.out).mono ?_
 rintro e w4 ⟨v4,rfl,ho,hb⟩
 obtain⟨A4,c4,e4⟩:=Kd.afz ho
 subst e4
 have HE4:=Qz.k ho
 have HK4:=Qz.k (Kd.ahz HK3.out hb)
 have HO4:=Qz.k (Kd.ahz HO3.out hb)
 have HB4:=Qz.k (aaz HB3.out hb)
 have HC4:=Qz.k (abz hb HC3.out)
 have HP4:=Qz.k (show w4.cell? ⟨w.heap.size+1,0,none⟩=some (.slice A0 t.length c0)∧w4.cell? ⟨w.heap.size+1,1,none⟩=some (.int .u64 ver)∧w4.cell? ⟨w.heap.size+1,2,none⟩=some (.int .i64 (i:Int))from⟨abz hb HP3.out.1,abz hb HP3.out.2.1,abz hb HP3.out.2.2⟩)
 clear ho hb HK3 HO3 HB3 HC3 HP3
 go_wp2_with (fail)
 refine(HPD.out _ A4 c4 (Kd.ack HE4.out).2.2 (Kd.ack HE4.out).2.1).mono ?_
 rintro e w5 ⟨v5,rfl,ho,hb⟩
 obtain⟨A5,c5,e5⟩:=Kd.afz ho
 subst e5
 have HF5:=Qz.k ho
 have HK5:=Qz.k (Kd.ahz HK4.out hb)
 have HO5:=Qz.k (Kd.ahz HO4.out hb)
 have HB5:=Qz.k (aaz HB4.out hb)
 have HC5:=Qz.k (abz hb HC4.out)
 have HP5:=Qz.k (show w5.cell? ⟨w.heap.size+1,0,none⟩=some (.slice A0 t.length c0)∧w5.cell? ⟨w.heap.size+1,1,none⟩=some (.int .u64 ver)∧w5.cell? ⟨w.heap.size+1,2,none⟩=some (.int .i64 (i:Int))from⟨abz hb HP4.out.1,abz hb HP4.out.2.1,abz hb HP4.out.2.2⟩)
 clear ho hb HK4 HO4 HB4 HC4 HP4 HE4
 go_wp2_with (fail)
 refine(HBU.out _).mono ?_
 rintro e w6 ⟨rfl,hb⟩
 have HF6:=Qz.k (Kd.ahz HF5.out hb)
 have HK6:=Qz.k (Kd.ahz HK5.out hb)
 have HO6:=Qz.k (Kd.ahz HO5.out hb)
 have HB6:=Qz.k (aaz HB5.out hb)
 have hc6:=abz hb HC5.out
 have hp1:=abz hb HP5.out.1
 have hp2:=abz hb HP5.out.2.1
 have hp3:=abz hb HP5.out.2.2
 clear hb HK5 HO5 HB5 HC5 HP5 HF5
 go_wp2_with (fail)
 refine(HBS.out _).mono ?_
 rintro e w7 ⟨v7,rfl,ho,hb⟩
 obtain⟨A7,c7,e7⟩:=Kd.afz ho
 subst e7
 have HA7:=Qz.k ho
 have HF7:=Qz.k (Kd.ahz HF6.out hb)
 have HK7:=Qz.k (Kd.ahz HK6.out hb)
 have HO7:=Qz.k (Kd.ahz HO6.out hb)
 have HB7:=Qz.k (aaz HB6.out hb)
 clear ho hb hc6 hp1 hp2 hp3 HK6 HO6 HB6 HF6
 go_wp2_with (fail)
 refine(aead_Seal.calls Ak ck D An cn nn A7 c7 AD A5 c5 FU w7 (Kd.ack HK7.out).2.2 (Kd.ack HK7.out).2.1 HDL.out (Kd.ack HO7.out).2.2 (Kd.ack HO7.out).2.1 HN.out (Kd.ack HA7.out).2.2 (Kd.ack HA7.out).2.1 ⟨by rw [HAD.out];decide,by rw [HAD.out],HAB.out⟩ (Kd.ack HF7.out).2.2 (Kd.ack HF7.out).2.1 HPF.out.2.2).mono ?_
 rintro e w8 ⟨v8,r8,rfl,hl,ho,hb⟩
 have HR8:=Qz.k (Kd.aiq ho HB7.out.size)
 have HB8:=Qz.k (aaz HB7.out hb)
 have HL8:=Qz.k (show r8.length=(aOz bk).toNat+16 from by rw [hl,HPF.out.2.1])
 clear ho hb hl HK7 HO7 HB7 HF7 HA7
 go_wp2
 go_ret3
 exact⟨_,_,rfl,HL8.out,HR8.out,HB8.out⟩
theorem aJz {α : Type}{d:Kd α}{e base:Nat}{w:World}{ok:Nat→Prop}{v:Value}{xs:List α}(h:d.R e w base ok v xs){k:Nat}(hk:v.ownBlock=some k):∃ cells,w.heap[k]? = some (.cells cells e (0,0)):=by
 obtain⟨_,inner,hown,_⟩:=h
 exact btz hown k hk
theorem own_types {α β : Type}{d:Kd α}{d':Kd β}{e e' base base':Nat}{w:World}{ok ok':Nat→Prop}{v v':Value}{xs:List α}{ys:List β}(h:d.R e w base ok v xs)(h':d'.R e' w base' ok' v' ys)(hne:e≠e'):v.ownBlock=none∨v.ownBlock≠v'.ownBlock:=by
 cases hk:v.ownBlock with
 |none=>exact .inl rfl
 |some k=>
  refine .inr (fun hh=>?_)
  obtain⟨c,hc⟩:=aJz h hk
  obtain⟨c',hc'⟩:=aJz h' hh.symm
  rw [hc]at hc'
  injection hc' with hc'
  injection hc' with _ hc'
  exact hne hc'
theorem aLz {α β : Type}{d:Kd α}{d':Kd β}{e e' base base':Nat}{w w1:World}{ok ok':Nat→Prop}{v v':Value}{xs:List α}{ys:List β}(h:d.R e w base ok v xs)(h':d'.R e' w base' ok' v' ys)(hg:w.grownBy w1 v'.ownBlock)(hne:e'∉e :: d.E):d.R e w1 base ok v xs:=
 Kd.R_mono (Kd.aUz (Kd.axz h) hg (fun k hk he=>by
  obtain⟨_,_,_,q,hq,c,hc⟩:=hk
  obtain⟨c',hc'⟩:=aJz h' he.symm
  rw [hc]at hc'
  injection hc' with hc'
  injection hc' with _ hc' _
  exact hne (hc' ▸ hq))) (fun _ hk=>hk.1)
theorem info75 : (Tryz.prog.info? 75).map (fun i=>(i.zero,i.size,i.bytes))=some (some (.agg #[.string ⟨#[]⟩,.int .i64 0]),2,24):=by kernel_rfl
def ayq (enc:S43→List Int)(x:S43):Nat:=(aOz (arz ((enc x).length:Int)).1).toNat+16
def aWk (enc:S43→List Int)(x:S43):S75:=⟨x.f0,(arz ((enc x).length:Int)).1⟩
theorem reads_one {α : Type}{Rr : α → List Value→Prop}{W:World}{g:Nat}{p : α}{cs:List Value}(hR:Rr p cs)(hc:∀ i u,cs[i]? = some u→W.cell? ⟨g,i,none⟩=some u):aBz Rr cs.length W (some ⟨g,0,none⟩) 1 [p]:=by
 refine⟨rfl,by decide,fun _=>⟨_,rfl,fun j q hj=>?_⟩⟩
 cases j with
 |succ j=>simp at hj
 |zero=>
  simp only [List.getElem?_cons_zero,Option.some.injEq]at hj
  subst hj
  refine⟨cs,rfl,hR,fun i u hu=>?_⟩
  show W.cell? ((⟨g,0,none⟩:Addr).add (0*cs.length+i))=_
  rw [addr_add,Nat.zero_mul,Nat.zero_add,Nat.zero_add]
  exact hc i u hu
def archive_sealedAll.T12 : Bool×List (List Nat×List Nat):=(true,[([],[]),([],[]),([1],[1]),([0,2],[0,2]),([],[]),([],[]),([5],[5]),([],[]),([6,7],[6,7]),([8],[8]),([4,9,3],[4,9]),([3,10,0,1,2,3],[0,3]),([10,11,0,1,2,3,4,5,6,7,8,9,10,11],[4,10])])
def archive_sealedAll.B12 : List Nat:=[0,0,2,7,0,0,32,0,224,480,1023,2047,4095]
theorem archive_sealedAll.tab12 : rtab .any (opsOf Tryz.f21 12)=archive_sealedAll.T12:=by kernel_rfl
theorem archive_sealedAll.bits12 : aLq archive_sealedAll.T12.2 archive_sealedAll.B12=true:=by kernel_rfl
set_option maxHeartbeats 4000000 in
theorem archive_sealedAll.calls (enc:S43→List Int)(A0:Option Addr)(c0:Nat)(key:List Int)(ver:Int)(A1:Option Addr)(c1:Nat)(l:List S43)(w:World)(hr0:Kd.C (Kd.int .u8) w A0 key.length key)(hc0:key.length≤c0)(hk:key.length=32)(hr1:Kd.C k43 w A1 l.length l)(hl:l.length<1024)
  (hnm:∀ x∈l,x.f0.size=3) (hel:∀ x∈l,(enc x).length≤4194300)
  (hEnc:∀ x∈l,∀ (w1:World) (A:Option Addr) (c:Nat),Below w.heap.size w w1→Kd.C k56 w1 A x.f1.length x.f1→x.f1.length≤c→Calls Tryz.prog 14 #[.agg #[.string x.f0,.slice A x.f1.length c]] w1 fun e w'=>∃ v,e=.returned (.tuple #[v,.int .i64 0])∧Kd.R (Kd.int .u8) 5 w' w1.heap.size (fun _=>True) v (enc x)∧Below w1.heap.size w1 w') :
  Calls Tryz.prog 21 #[.slice A0 key.length c0,.int .u64 ver,.slice A1 l.length c1] w fun e w'=>∃ (v58 v59:Value) (ss:List (List Int)),e=.returned (.tuple #[v58,v59,.int .i64 0])∧ss.map List.length=l.map (ayq enc)∧Kd.R (Kd.slice 5 (Kd.int .u8)) 27 w' w.heap.size (fun _=>True) v58 ss∧Kd.R k75 75 w' w.heap.size (fun _=>True) v59 (l.map (aWk enc))∧Below w.heap.size w w':=by
 have HTN:=Qz.k (fun(s:ByteArray) (hs:s.size=3) (w1:World) (h:Below w.heap.size w w1)=>keys_Tenant.calls A0 c0 key s w1 (Kd.acz hr0 h) hc0 hk (by omega))
 have HR:=Qz.k hr1
 have HLL:=Qz.k hl
 have HNM:=Qz.k (fun(j:Nat) (hj:j<l.length)=>hnm (l[j]) (List.getElem_mem hj))
 have HEL:=Qz.k (fun(j:Nat) (hj:j<l.length)=>hel (l[j]) (List.getElem_mem hj))
 have HEN:=Qz.k (fun(j:Nat) (hj:j<l.length)=>hEnc (l[j]) (List.getElem_mem hj))
 have HRD:=Qz.k (show ∀ (j:Nat) (hj:j<l.length),bLz l (j:Int)=l[j]from fun j hj=>by simp [bLz,List.getD_eq_getElem?_getD,List.getElem?_eq_getElem hj])
 have HTK:=Qz.k (show ∀ (j:Nat) (hj:j<l.length),l.take j ++ [l[j]]=l.take (j+1)from fun j hj=>by rw [List.take_add_one,List.getElem?_eq_getElem hj];rfl)
 clear hr0 hc0 hk hr1 hl hnm hel hEnc
 go_enter Tryz.func21,Tryz.ntmps21
 go_wp2
 go_loopg [9,10,11,12,13,14,15,16,19] l.length (fun kq v9 v10 v11 v12 v13 v14 v15 v16 v19 W'=>∃ (j:Nat) (ss:List (List Int)),v19=.int .i64 (j:Int)∧kq=l.length-j∧j≤l.length∧Qz (ss.map List.length=(l.take j).map (ayq enc))∧Qz (Kd.R (Kd.slice 5 (Kd.int .u8)) 27 W' w.heap.size (fun _=>True) v9 ss)∧Qz (Kd.R k75 75 W' w.heap.size (fun _=>True) v10 ((l.take j).map (aWk enc)))∧Qz (Below w.heap.size w W'))
 case atStart=>exact⟨0,[],rfl,rfl,by omega,⟨rfl⟩,⟨Kd.ayz _ _ _ _ _⟩,⟨Kd.ayz _ _ _ _ _⟩,⟨Below.refl _ _⟩⟩
 case round=>
  obtain⟨j,ss,rfl,rfl,hj,HSL,HS,HE,HB⟩:=hrel
  by_cases hlt:j<l.length
  ·have c5:decide ((j:Int)<(l.length:Int))=true:=decide_eq_true (by omega)
   have c6:decide (j<l.length)=true:=decide_eq_true hlt
   have n0:(j:Int)<1024:=by have:=HLL.out;omega
   have HW:=Qz.k (show wrap64 ((j:Int)+1)=((j+1:Nat):Int)from by rw [agq (by omega) (by omega)];omega)
   obtain⟨ad,Aj,cj,e5,hx0,hx1,hlj,hij⟩:=bQk HR.out (j:Int) (by omega) (by omega)
   subst e5
   rw [Int.toNat_natCast]at hx0 hx1
   replace hx0:=(HB.out.cell (World.block_lt_of_cell? w _ hx0)).trans hx0
   replace hx1:=(HB.out.cell (World.block_lt_of_cell? w _ hx1)).trans hx1
   have HNJ:=Qz.k (HNM.out j hlt)
   have HLJ:=Qz.k (HEL.out j hlt)
   have HEJ:=Qz.k (HEN.out j hlt)
   have HTJ:=Qz.k (HTK.out j hlt)
   rw [HRD.out j hlt]at hx0 hx1 hlj hij
   generalize l[j]=x at *
   have HXC:=Qz.k (Kd.acz hij HB.out)
   have HXL:=Qz.k hlj
   clear hlj hij
   go_wp2_with (fail)
   obtain⟨g12,hg12⟩:∃ g12,wr.heap.size=g12:=⟨_,rfl⟩
   obtain⟨W1,hW1⟩:∃ W1,wr.alloc (.cells #[.string x.f0,.slice Aj x.f1.length cj] 43)=W1:=⟨_,rfl⟩
   have HC1:=Qz.k (show W1.heap[g12]? = some (.cells #[.string x.f0,.slice Aj x.f1.length cj] 43 (0,0))from by rw [←hW1,←hg12];exact akz wr _)
   have hb1:Below wr.heap.size wr W1:=by rw [←hW1];exact aaq (Below.refl _ _) _
   have HB1:=Qz.k (aaz HB.out hb1)
   have HS1:=Qz.k (Kd.ahz HS.out hb1)
   have HE1:=Qz.k (Kd.ahz HE.out hb1)
   have HX1:=Qz.k (Kd.acz HXC.out hb1)
   rw [hW1,hg12]
   clear hb1 hW1 hg12 HB HS HE HXC hx0 hx1
   refine(HTN.out x.f0 HNJ.out W1 HB1.out).mono ?_
   rintro e w3 ⟨v3,rfl,ho,hb⟩
   obtain⟨A3,c3,e3⟩:=Kd.afz ho
   subst e3
   have HDL:=Qz.k (aXq key 1 x.f0)
   generalize derived key 1 x.f0=D at *
   have HD3:=Qz.k (Kd.aiq ho HB1.out.size)
   have HC3:=Qz.k (agz HC1.out hb)
   have HB3:=Qz.k (aaz HB1.out hb)
   have HS3:=Qz.k (Kd.ahz HS1.out hb)
   have HE3:=Qz.k (Kd.ahz HE1.out hb)
   have HX3:=Qz.k (Kd.acz HX1.out hb)
   have hc0:w3.cell? ⟨g12,0,none⟩=some (.string x.f0):=(aak HC3.out 0).trans rfl
   have hc1:w3.cell? ⟨g12,1,none⟩=some (.slice Aj x.f1.length cj):=(aak HC3.out 1).trans rfl
   clear ho hb HC1 HB1 HS1 HE1 HX1
   go_wp2_with (fail)
   refine(archive_Seal.calls A3 c3 D ver j x.f0 Aj x.f1.length cj (enc x) w3 (Kd.ack HD3.out).2.2 (Kd.ack HD3.out).2.1 HDL.out (by omega) HNJ.out HLJ.out (fun w4 hb=>HEJ.out w4 Aj cj (aaz HB3.out hb) (Kd.acz HX3.out hb) HXL.out)).mono ?_
   rintro e w5 ⟨v5,SR,rfl,hl,ho,hb⟩
   obtain⟨A15,c15,e15⟩:=Kd.afz ho
   subst e15
   have HSR:=Qz.k (show SR.length=ayq enc x from hl)
   have HX:=Qz.k (Kd.aiq ho HB3.out.size)
   have HC:=Qz.k (agz HC3.out hb)
   have HB:=Qz.k (aaz HB3.out hb)
   have HS:=Qz.k (Kd.ahz HS3.out hb)
   have HE:=Qz.k (Kd.ahz HE3.out hb)
   clear hl ho hb hc0 hc1 HC3 HB3 HS3 HE3 HX3 HD3
   obtain⟨en,hen⟩:∃ en,aWk enc x=en:=⟨_,rfl⟩
   have HKM:=Qz.k (show ∀ (W:World) (base:Nat) (ok:Nat→Prop),k75.M W base ok en [.string x.f0,.int .i64 (arz ((enc x).length:Int)).1]from fun W base ok=>by rw [←hen];exact k75_mkM W base ok _)
   have HNX:=Qz.k (show(l.take j).map (aWk enc) ++ [en]=(l.take (j+1)).map (aWk enc)from by rw [←hen,←HTJ.out,List.map_append];rfl)
   have HSX:=Qz.k (show(ss ++ [SR]).map List.length=(l.take (j+1)).map (ayq enc)from by rw [←HTJ.out,List.map_append,List.map_append,HSL.out];simp [HSR.out])
   have HELN:=Qz.k (show((l.take j).map (aWk enc)).length≤1024 from by rw [List.length_map,List.length_take];omega)
   have HSC:=Qz.k (show ss.length≤1024 from by have:=congrArg List.length HSL.out;rw [List.length_map,List.length_map,List.length_take]at this;omega)
   generalize (arz ((enc x).length:Int)).1=bk at *
   generalize (l.take j).map (aWk enc)=EL at *
   clear hen
   go_upto_region 12 with(fail)
   refine axq (n:=13) (S:=fun w'=>True) (ds:=[]) (bl 13 0) (by kernel_rfl) rfl rfl trivial (fun hHeld=>?_)
   refine aNk archive_sealedAll.tab12 archive_sealedAll.bits12 (fun HT_ HW_=>?_)
   refine pu_ 0 46 ?_ ?_ (bl 13 1) rfl rfl (amq HT_.out (by kernel_rfl)) ?_ ?_ ?_
   rotate_left 2
   ·intro w';go_simp;with_reducible rfl
   ·simp only [Act.put,putA,putZ,putS,abq,abk];rfl
   refine pu_ 1 47 ?_ ?_ (bl 13 3) rfl rfl (amq HT_.out (by kernel_rfl)) ?_ ?_ ?_
   rotate_left 2
   ·intro w';go_simp;with_reducible rfl
   ·simp only [Act.put,putA,putZ,putS,abq,abk];rfl
   refine pu_ 4 50 ?_ ?_ (bl 13 19) rfl rfl (amq HT_.out (by kernel_rfl)) ?_ ?_ ?_
   rotate_left 2
   ·intro w';go_simp;with_reducible rfl
   ·simp only [Act.put,putA,putZ,putS,abq,abk];rfl
   refine pu_ 5 51 ?_ ?_ (bl 13 51) rfl rfl (amq HT_.out (by kernel_rfl)) ?_ ?_ ?_
   rotate_left 2
   ·intro w';go_simp;with_reducible rfl
   ·simp only [Act.put,putA,putZ,putS,abq,abk];rfl
   refine pu_ 7 53 ?_ ?_ (bl 13 179) rfl rfl (amq HT_.out (by kernel_rfl)) ?_ ?_ ?_
   rotate_left 2
   ·intro w';go_simp;with_reducible rfl
   ·simp only [Act.put,putA,putZ,putS,abq,abk];rfl
   refine inv_at [2,3,6,8,9,10,11,12] (fun a0_ b a w'=>∃ (g48:Nat) (v49:Value) (g55:Nat) (v56:Value) (m2_:Value) (m9_:Value) (m11_:Value) (m12_:Value),a=awk a0_ b [(2,48,m2_),(3,49,v49),(6,52,.string x.f0),(8,54,.agg #[.string x.f0,.int .i64 bk]),(9,55,m9_),(10,56,v56),(11,9,m11_),(12,10,m12_)]∧(Below w.heap.size w w')∧(w'.heap[g12]? = some (.cells #[.string x.f0,.slice Aj x.f1.length cj] 43 (0,0)))∧(Kd.R (Kd.int .u8) 5 w' w.heap.size (fun _=>True) (.slice A15 SR.length c15) SR)∧(b 3=false→Kd.R (Kd.slice 5 (Kd.int .u8)) 27 w' w.heap.size (fun _=>True) u9 ss)∧(b 10=false→Kd.R k75 75 w' w.heap.size (fun _=>True) u10 EL)∧(b 2=true→b 3=false→w'.cell? ⟨g48,0,none⟩=some (.slice A15 SR.length c15))∧(b 3=true→Kd.R (Kd.slice 5 (Kd.int .u8)) 27 w' w.heap.size (fun _=>True) v49 (ss ++ [SR]))∧(b 9=true→b 10=false→w'.heap[g55]? = some (.cells #[.string x.f0,.int .i64 bk] 75 (0,0)))∧(b 10=true→Kd.R k75 75 w' w.heap.size (fun _=>True) v56 (EL ++ [en]))∧(b 2=true→(m2_:Value)=.slice (some ⟨g48,0,none⟩) 1 1)∧(b 9=true→(m9_:Value)=.slice (some ⟨g55,0,none⟩) 1 1)∧(b 11=true→(m11_:Value)=v49)∧(b 12=true→(m12_:Value)=v56)) HT_.out HW_.out (by kernel_rfl) (by kernel_rfl) ?_ ?_ ?_
   ·exact⟨0,.bool false,0,.bool false,.bool false,.bool false,.bool false,.bool false,by simp only [awk,Bool.false_eq_true,if_false],(aez HB.out),(show _ from HC.out),(Kd.amz HX.out),fun _=>(Kd.amz HS.out),fun _=>(Kd.amz HE.out),fun h_=>absurd h_ (by decide),fun h_=>absurd h_ (by decide),fun h_=>absurd h_ (by decide),fun h_=>absurd h_ (by decide),fun h_=>absurd h_ (by decide),fun h_=>absurd h_ (by decide),fun h_=>absurd h_ (by decide),fun h_=>absurd h_ (by decide)⟩
   ·skip
    clear HB HC HE HS HX
    refine ajz ?_ ?_
    ·rintro b a w' ⟨g48,v49,g55,v56,m2_,m9_,m11_,m12_,ha,Q_HB,Q_HC,Q_HX,Q_HS,Q_HE,Q_F48,Q_F49,Q_F55,Q_F56,Q_X2_,Q_X9_,Q_X11_,Q_X12_⟩ hb_ hon hoff
     refine⟨_,rfl,fun K hK=>?_⟩
     have e47:a.tmps[47]? = some (.slice A15 SR.length c15):=by rw [ha];exact(auz rfl).trans rfl
     replace ha:=Qz.k ha
     have HB:=Qz.k Q_HB
     have HC:=Qz.k Q_HC
     have HX:=Qz.k Q_HX
     have HS:=Qz.k (Q_HS (hoff 3 (by kernel_rfl)))
     have HE:=Qz.k (Q_HE (hoff 10 (by kernel_rfl)))
     have hb:=aaq (Below.refl w'.heap.size w') (.cells #[(.slice A15 SR.length c15)] 27)
     have hv47:=apq e47
     refine aAq (w1:=w'.alloc (.cells #[(.slice A15 SR.length c15)] 27)) (v := .slice (some ⟨w'.heap.size,0,none⟩) 1 1) (by rfl) rfl ?_ ?_
     ·go_simp
     refine hK.out _ _ ⟨w'.heap.size,v49,g55,v56,(.slice (some ⟨w'.heap.size,0,none⟩) 1 1),m9_,m11_,m12_,(by rw [ha.out];exact ajk 0 hb_ rfl rfl rfl),(aaz HB.out hb),(agz HC.out hb),(Kd.ahz HX.out hb),fun _=>(Kd.ahz HS.out hb),fun _=>(Kd.ahz HE.out hb),fun _ _=>((aak (akz w' _) 0).trans rfl),fun h0_=>absurd ((hoff 3 (by kernel_rfl)).symm.trans h0_) (by decide),fun h0_ h1_=>(agz (Q_F55 h0_ h1_) hb),fun h0_=>absurd ((hoff 10 (by kernel_rfl)).symm.trans h0_) (by decide),fun _=>rfl,Q_X9_,fun h0_=>absurd ((hoff 11 (by kernel_rfl)).symm.trans h0_) (by decide),fun h0_=>absurd ((hoff 12 (by kernel_rfl)).symm.trans h0_) (by decide)⟩
    refine ajz ?_ ?_
    ·rintro b a w' ⟨g48,v49,g55,v56,m2_,m9_,m11_,m12_,ha,Q_HB,Q_HC,Q_HX,Q_HS,Q_HE,Q_F48,Q_F49,Q_F55,Q_F56,Q_X2_,Q_X9_,Q_X11_,Q_X12_⟩ hb_ hon hoff
     refine⟨_,rfl,fun K hK=>?_⟩
     have e46:a.tmps[46]? = some (u9):=by rw [ha];exact(auz rfl).trans rfl
     have e48:a.tmps[48]? = some (m2_):=by rw [ha];exact alq (e:=(2,48,m2_)) 0 rfl rfl (hon 2 (by kernel_rfl)) rfl
     rw [Q_X2_ (hon 2 (by kernel_rfl))]at e48
     replace ha:=Qz.k ha
     have HB:=Qz.k Q_HB
     have HC:=Qz.k Q_HC
     have HX:=Qz.k Q_HX
     have HS:=Qz.k (Q_HS hb_)
     have HE:=Qz.k (Q_HE (hoff 10 (by kernel_rfl)))
     have F48:=Qz.k (Q_F48 (hon 2 (by kernel_rfl)) hb_)
     refine Kd.avq (Kd.slice 5 (Kd.int .u8)) (Rr:=fun y cs=>y=SR∧cs=[(.slice A15 SR.length c15)]) (w0:=w) w.heap.size (by rfl) (.tmp 46) (.tmp 48) 58 27 (.slice none 0 0) 24 rfl Tryz.underlying58 info27 rfl (by decide) (by decide) u9 ss [SR] _ _ _ (fun _=>True) (fun k=>True∧some k≠u9.ownBlock) (apq e46) (apq e48) HS.out (reads_one (cs:=[(.slice A15 SR.length c15)]) ⟨rfl,rfl⟩ (fun i u hu=>by cases i with|zero=>(simp only [List.getElem?_cons_zero,Option.some.injEq]at hu;rw [←hu];exact F48.out)|succ i=>simp at hu)) (fun y cs h=>by obtain⟨rfl,rfl⟩:=h;exact⟨_,rfl,Kd.R_flat (fun h=>h) HX.out (fun k hk _=>⟨trivial,atom_of (own_types HX.out HS.out (by decide)) hk⟩)⟩) (fun k hk=>hk) (fun _ _=>trivial) HB.out HB.out.size (by have:=HSC.out;omega) ?_
     intro v0 w3 ho hb hg hat
     refine hK.out _ _ ⟨g48,v0,g55,v56,m2_,m9_,m11_,m12_,(by rw [ha.out];exact ajk 1 hb_ rfl rfl rfl),hb,(ark HC.out hg (Kd.R_ne HS.out HC.out (by decide))),(aLz HX.out HS.out hg (by decide)),fun h0_=>absurd ((aBq b 3).symm.trans h0_) (by decide),fun _=>(aLz HE.out HS.out hg (by decide)),fun _ h1_=>absurd ((aBq b 3).symm.trans h1_) (by decide),fun _=>ho,fun h0_ h1_=>(ark (Q_F55 h0_ h1_) hg (Kd.R_ne HS.out (Q_F55 h0_ h1_) (by decide))),fun h0_=>absurd ((hoff 10 (by kernel_rfl)).symm.trans h0_) (by decide),Q_X2_,Q_X9_,fun h0_=>absurd ((hoff 11 (by kernel_rfl)).symm.trans h0_) (by decide),fun h0_=>absurd ((hoff 12 (by kernel_rfl)).symm.trans h0_) (by decide)⟩
    refine ajz ?_ ?_
    ·rintro b a w' ⟨g48,v49,g55,v56,m2_,m9_,m11_,m12_,ha,Q_HB,Q_HC,Q_HX,Q_HS,Q_HE,Q_F48,Q_F49,Q_F55,Q_F56,Q_X2_,Q_X9_,Q_X11_,Q_X12_⟩ hb_ hon hoff
     refine⟨_,rfl,fun K hK=>?_⟩
     have e51:a.tmps[51]? = some (.pointer (some ⟨g12,0,none⟩)):=by rw [ha];exact(auz rfl).trans rfl
     replace ha:=Qz.k ha
     have HB:=Qz.k Q_HB
     have HC:=Qz.k Q_HC
     have HX:=Qz.k Q_HX
     have HE:=Qz.k (Q_HE (hoff 10 (by kernel_rfl)))
     have hc:=(aak HC.out 0).trans (show _=some (Value.string x.f0)from rfl)
     have hv51:=apq e51
     refine aAq (w1:=w') (v := .string x.f0) (by rfl) rfl ?_ ?_
     ·go_simp
      (try simp only [abq])
      try rfl
     refine hK.out _ _ ⟨g48,v49,g55,v56,m2_,m9_,m11_,m12_,(by rw [ha.out];exact ajk 2 hb_ rfl rfl rfl),Q_HB,Q_HC,Q_HX,Q_HS,Q_HE,Q_F48,Q_F49,fun h0_ _=>absurd ((hoff 9 (by kernel_rfl)).symm.trans h0_) (by decide),fun h0_=>absurd ((hoff 10 (by kernel_rfl)).symm.trans h0_) (by decide),Q_X2_,fun h0_=>absurd ((hoff 9 (by kernel_rfl)).symm.trans h0_) (by decide),fun h0_=>absurd ((hoff 11 (by kernel_rfl)).symm.trans h0_) (by decide),fun h0_=>absurd ((hoff 12 (by kernel_rfl)).symm.trans h0_) (by decide)⟩
    refine ajz ?_ ?_
    ·rintro b a w' ⟨g48,v49,g55,v56,m2_,m9_,m11_,m12_,ha,Q_HB,Q_HC,Q_HX,Q_HS,Q_HE,Q_F48,Q_F49,Q_F55,Q_F56,Q_X2_,Q_X9_,Q_X11_,Q_X12_⟩ hb_ hon hoff
     refine⟨_,rfl,fun K hK=>?_⟩
     have e52:a.tmps[52]? = some (.string x.f0):=by rw [ha];exact alq (e:=(6,52,.string x.f0)) 2 rfl rfl (hon 6 (by kernel_rfl)) rfl
     have e53:a.tmps[53]? = some (.int .i64 bk):=by rw [ha];exact(auz rfl).trans rfl
     replace ha:=Qz.k ha
     have HB:=Qz.k Q_HB
     have HC:=Qz.k Q_HC
     have HX:=Qz.k Q_HX
     have HE:=Qz.k (Q_HE (hoff 10 (by kernel_rfl)))
     have hv52:=apq e52
     have hv53:=apq e53
     refine aAq (w1:=w') (v := .agg #[.string x.f0,.int .i64 bk]) (by rfl) rfl ?_ ?_
     ·go_simp
      (try simp only [abq])
      try rfl
     refine hK.out _ _ ⟨g48,v49,g55,v56,m2_,m9_,m11_,m12_,(by rw [ha.out];exact ajk 3 hb_ rfl rfl rfl),Q_HB,Q_HC,Q_HX,Q_HS,Q_HE,Q_F48,Q_F49,fun h0_ _=>absurd ((hoff 9 (by kernel_rfl)).symm.trans h0_) (by decide),fun h0_=>absurd ((hoff 10 (by kernel_rfl)).symm.trans h0_) (by decide),Q_X2_,fun h0_=>absurd ((hoff 9 (by kernel_rfl)).symm.trans h0_) (by decide),fun h0_=>absurd ((hoff 11 (by kernel_rfl)).symm.trans h0_) (by decide),fun h0_=>absurd ((hoff 12 (by kernel_rfl)).symm.trans h0_) (by decide)⟩
    refine ajz ?_ ?_
    ·rintro b a w' ⟨g48,v49,g55,v56,m2_,m9_,m11_,m12_,ha,Q_HB,Q_HC,Q_HX,Q_HS,Q_HE,Q_F48,Q_F49,Q_F55,Q_F56,Q_X2_,Q_X9_,Q_X11_,Q_X12_⟩ hb_ hon hoff
     refine⟨_,rfl,fun K hK=>?_⟩
     have e54:a.tmps[54]? = some (.agg #[.string x.f0,.int .i64 bk]):=by rw [ha];exact alq (e:=(8,54,.agg #[.string x.f0,.int .i64 bk])) 3 rfl rfl (hon 8 (by kernel_rfl)) rfl
     replace ha:=Qz.k ha
     have HB:=Qz.k Q_HB
     have HC:=Qz.k Q_HC
     have HX:=Qz.k Q_HX
     have HE:=Qz.k (Q_HE (hoff 10 (by kernel_rfl)))
     have hb:=aaq (Below.refl w'.heap.size w') (.cells #[.string x.f0,.int .i64 bk] 75)
     have hv54:=apq e54
     refine aAq (w1:=w'.alloc (.cells #[.string x.f0,.int .i64 bk] 75)) (v := .slice (some ⟨w'.heap.size,0,none⟩) 1 1) (by rfl) rfl ?_ ?_
     ·go_simp
     refine hK.out _ _ ⟨g48,v49,w'.heap.size,v56,m2_,(.slice (some ⟨w'.heap.size,0,none⟩) 1 1),m11_,m12_,(by rw [ha.out];exact ajk 4 hb_ rfl rfl rfl),(aaz HB.out hb),(agz HC.out hb),(Kd.ahz HX.out hb),fun h0_=>(Kd.ahz (Q_HS h0_) hb),fun _=>(Kd.ahz HE.out hb),fun h0_ h1_=>(abz hb (Q_F48 h0_ h1_)),fun h0_=>(Kd.ahz (Q_F49 h0_) hb),fun _ _=>(akz w' _),fun h0_=>absurd ((hoff 10 (by kernel_rfl)).symm.trans h0_) (by decide),Q_X2_,fun _=>rfl,fun h0_=>absurd ((hoff 11 (by kernel_rfl)).symm.trans h0_) (by decide),fun h0_=>absurd ((hoff 12 (by kernel_rfl)).symm.trans h0_) (by decide)⟩
    refine ajz ?_ ?_
    ·rintro b a w' ⟨g48,v49,g55,v56,m2_,m9_,m11_,m12_,ha,Q_HB,Q_HC,Q_HX,Q_HS,Q_HE,Q_F48,Q_F49,Q_F55,Q_F56,Q_X2_,Q_X9_,Q_X11_,Q_X12_⟩ hb_ hon hoff
     refine⟨_,rfl,fun K hK=>?_⟩
     have e50:a.tmps[50]? = some (u10):=by rw [ha];exact(auz rfl).trans rfl
     have e55:a.tmps[55]? = some (m9_):=by rw [ha];exact alq (e:=(9,55,m9_)) 4 rfl rfl (hon 9 (by kernel_rfl)) rfl
     rw [Q_X9_ (hon 9 (by kernel_rfl))]at e55
     replace ha:=Qz.k ha
     have HB:=Qz.k Q_HB
     have HC:=Qz.k Q_HC
     have HX:=Qz.k Q_HX
     have HE:=Qz.k (Q_HE hb_)
     have F49:=Qz.k (Q_F49 (hon 3 (by kernel_rfl)))
     have F55:=Qz.k (Q_F55 (hon 9 (by kernel_rfl)) hb_)
     have f0:=(aak F55.out 0).trans (show _=some (Value.string x.f0)from rfl)
     have f1:=(aak F55.out 1).trans (show _=some (Value.int .i64 bk)from rfl)
     refine Kd.avq k75 (Rr:=fun y cs=>y=en∧cs=[.string x.f0,.int .i64 bk]) (w0:=w) w.heap.size (by rfl) (.tmp 50) (.tmp 55) 59 75 (.agg #[.string ⟨#[]⟩,.int .i64 0]) 24 rfl Tryz.underlying59 info75 rfl (by decide) (by decide) u10 EL [en] _ _ _ (fun _=>True) (fun k=>True∧some k≠u10.ownBlock) (apq e50) (apq e55) HE.out (reads_one (cs:=[.string x.f0,.int .i64 bk]) ⟨rfl,rfl⟩ (fun i u hu=>by match i,hu with | 0,hu=>(simp only [List.getElem?_cons_zero,Option.some.injEq]at hu;rw [←hu];exact f0) | 1,hu=>(simp only [List.getElem?_cons_succ,List.getElem?_cons_zero,Option.some.injEq]at hu;rw [←hu];exact f1)|i+2,hu=>simp at hu)) (fun y cs h=>by obtain⟨rfl,rfl⟩:=h;exact HKM.out _ _ _) (fun k hk=>hk) (fun _ _=>trivial) HB.out HB.out.size (by have:=HELN.out;omega) ?_
     intro v0 w3 ho hb hg hat
     refine hK.out _ _ ⟨g48,v49,g55,v0,m2_,m9_,m11_,m12_,(by rw [ha.out];exact ajk 5 hb_ rfl rfl rfl),hb,(ark HC.out hg (Kd.R_ne HE.out HC.out (by decide))),(aLz HX.out HE.out hg (by decide)),fun h0_=>absurd ((hon 3 (by kernel_rfl)).symm.trans h0_) (by decide),fun h0_=>absurd ((aBq b 10).symm.trans h0_) (by decide),fun _ h1_=>absurd ((hon 3 (by kernel_rfl)).symm.trans h1_) (by decide),fun _=>(aLz F49.out HE.out hg (by decide)),fun _ h1_=>absurd ((aBq b 10).symm.trans h1_) (by decide),fun _=>ho,Q_X2_,Q_X9_,fun h0_=>absurd ((hoff 11 (by kernel_rfl)).symm.trans h0_) (by decide),fun h0_=>absurd ((hoff 12 (by kernel_rfl)).symm.trans h0_) (by decide)⟩
    refine ajz ?_ ?_
    ·rintro b a w' ⟨g48,v49,g55,v56,m2_,m9_,m11_,m12_,ha,Q_HB,Q_HC,Q_HX,Q_HS,Q_HE,Q_F48,Q_F49,Q_F55,Q_F56,Q_X2_,Q_X9_,Q_X11_,Q_X12_⟩ hb_ hon hoff
     refine⟨_,rfl,fun K hK=>?_⟩
     have e49:a.tmps[49]? = some (v49):=by rw [ha];exact alq (e:=(3,49,v49)) 1 rfl rfl (hon 3 (by kernel_rfl)) rfl
     replace ha:=Qz.k ha
     have HB:=Qz.k Q_HB
     have HC:=Qz.k Q_HC
     have HX:=Qz.k Q_HX
     have F49:=Qz.k (Q_F49 (hon 3 (by kernel_rfl)))
     have F56:=Qz.k (Q_F56 (hon 10 (by kernel_rfl)))
     have hv49:=apq e49
     refine aAq (w1:=w') (v:=v49) (by rfl) rfl ?_ ?_
     ·go_simp
      (try simp only [abq])
      try rfl
     refine hK.out _ _ ⟨g48,v49,g55,v56,m2_,m9_,(v49),m12_,(by rw [ha.out];exact ajk 6 hb_ rfl rfl rfl),Q_HB,Q_HC,Q_HX,fun h0_=>absurd ((hon 3 (by kernel_rfl)).symm.trans h0_) (by decide),fun h0_=>absurd ((hon 10 (by kernel_rfl)).symm.trans h0_) (by decide),fun _ h1_=>absurd ((hon 3 (by kernel_rfl)).symm.trans h1_) (by decide),Q_F49,fun _ h1_=>absurd ((hon 10 (by kernel_rfl)).symm.trans h1_) (by decide),Q_F56,Q_X2_,Q_X9_,fun _=>rfl,fun h0_=>absurd ((hoff 12 (by kernel_rfl)).symm.trans h0_) (by decide)⟩
    refine ajz ?_ ?_
    ·rintro b a w' ⟨g48,v49,g55,v56,m2_,m9_,m11_,m12_,ha,Q_HB,Q_HC,Q_HX,Q_HS,Q_HE,Q_F48,Q_F49,Q_F55,Q_F56,Q_X2_,Q_X9_,Q_X11_,Q_X12_⟩ hb_ hon hoff
     refine⟨_,rfl,fun K hK=>?_⟩
     have e56:a.tmps[56]? = some (v56):=by rw [ha];exact alq (e:=(10,56,v56)) 5 rfl rfl (hon 10 (by kernel_rfl)) rfl
     replace ha:=Qz.k ha
     have HB:=Qz.k Q_HB
     have HC:=Qz.k Q_HC
     have HX:=Qz.k Q_HX
     have F49:=Qz.k (Q_F49 (hon 3 (by kernel_rfl)))
     have F56:=Qz.k (Q_F56 (hon 10 (by kernel_rfl)))
     have hv56:=apq e56
     refine aAq (w1:=w') (v:=v56) (by rfl) rfl ?_ ?_
     ·go_simp
      (try simp only [abq])
      try rfl
     refine hK.out _ _ ⟨g48,v49,g55,v56,m2_,m9_,m11_,(v56),(by rw [ha.out];exact ajk 7 hb_ rfl rfl rfl),Q_HB,Q_HC,Q_HX,fun h0_=>absurd ((hon 3 (by kernel_rfl)).symm.trans h0_) (by decide),fun h0_=>absurd ((hon 10 (by kernel_rfl)).symm.trans h0_) (by decide),fun _ h1_=>absurd ((hon 3 (by kernel_rfl)).symm.trans h1_) (by decide),Q_F49,fun _ h1_=>absurd ((hon 10 (by kernel_rfl)).symm.trans h1_) (by decide),Q_F56,Q_X2_,Q_X9_,Q_X11_,fun _=>rfl⟩
    exact bbq
   rintro b a w' hall ⟨g48,v49,g55,v56,m2_,m9_,m11_,m12_,ha,Q_HB,Q_HC,Q_HX,Q_HS,Q_HE,Q_F48,Q_F49,Q_F55,Q_F56,Q_X2_,Q_X9_,Q_X11_,Q_X12_⟩
   clear HB HC HE HS HX
   have hb2_:=hall 2 (by kernel_rfl)
   have hb3_:=hall 3 (by kernel_rfl)
   have hb6_:=hall 6 (by kernel_rfl)
   have hb8_:=hall 8 (by kernel_rfl)
   have hb9_:=hall 9 (by kernel_rfl)
   have hb10_:=hall 10 (by kernel_rfl)
   have hb11_:=hall 11 (by kernel_rfl)
   have hb12_:=hall 12 (by kernel_rfl)
   subst ha
   obtain rfl:=Q_X2_ hb2_
   obtain rfl:=Q_X9_ hb9_
   obtain rfl:=Q_X11_ hb11_
   obtain rfl:=Q_X12_ hb12_
   simp only [awk,hb2_,hb3_,hb6_,hb8_,hb9_,hb10_,hb11_,hb12_,if_true,Act.put,List.setIfInBounds_toArray,List.set_cons_zero,List.set_cons_succ]
   have HB:=Qz.k Q_HB
   clear Q_HB
   have HC:=Qz.k Q_HC
   clear Q_HC
   have HX:=Qz.k Q_HX
   clear Q_HX
   clear Q_HS
   clear Q_HE
   clear Q_F48
   have F49:=Qz.k (Q_F49 hb3_)
   clear Q_F49
   clear Q_F55
   have F56:=Qz.k (Q_F56 hb10_)
   clear Q_F56
   clear hall hb2_ hb3_ hb6_ hb8_ hb9_ hb10_ hb11_ hb12_
   go_wp2
   rw [HNX.out]at F56
   go_roundg (l.length-(j+1))
   case measure=>exact(by omega)
   case rel=>
    (try rw [HW.out])
    exact⟨j+1,ss ++ [SR],rfl,rfl,hlt,HSX,F49,F56,HB⟩
  ·have c5:decide ((j:Int)<(l.length:Int))=false:=decide_eq_false (by omega)
   have c6:decide (j<l.length)=false:=decide_eq_false hlt
   obtain rfl:j=l.length:=by omega
   rw [List.take_length]at HSL HE
   go_wp2
   go_ret3
   exact⟨_,_,rfl,ss,HSL.out,HS.out,HE.out,HB.out⟩
def EntR (x:S75):Prop:=x.f0.size≤64∧0≤x.f1∧x.f1≤8
theorem sizeP_pos (k:Int)(h0:0≤k)(h8:k≤8):¬ aOz k=0:=by
 rw [bDq]
 repeat(split;omega)
 omega
theorem EntR.rd {es:List S75}(h:∀ x∈es,EntR x)(j:Nat)(hj:j<es.length):EntR (bKk es (j:Int)):=by
 have e:bKk es (j:Int)=es[j]:=by simp [bKk,List.getD_eq_getElem?_getD,List.getElem?_eq_getElem hj]
 rw [e]
 exact h _ (List.getElem_mem hj)
set_option maxHeartbeats 1000000 in
theorem manifest_wrong1.calls (s:ByteArray)(k:Int)(w:World)(hs:s.size≤64) :
  Calls Tryz.prog 157 #[.agg #[.string s,.int .i64 k]] w fun e w'=>e=.returned (.bool false)∧Below w.heap.size w w':=by
 have c1:decide ((s.size:Int) > 64)=false:=decide_eq_false (by omega)
 have c2:decide (64<s.size)=false:=decide_eq_false (by omega)
 have c3:decide ((64:Int)<(s.size:Int))=false:=decide_eq_false (by omega)
 go_enter Tryz.func157,Tryz.ntmps157
 go_wp2
 go_ret
 exact⟨rfl,aaq (Below.refl _ _) _⟩
set_option maxHeartbeats 1000000 in
theorem slices_index75.calls (A0:Option Addr)(c0:Nat)(es:List S75)(w:World)(hr0:Kd.C k75 w A0 es.length es)(hl:es.length<1024)(he:∀ x∈es,EntR x) :
  Calls Tryz.prog 201 #[.slice A0 es.length c0,.func (.func 157) #[] #[]] w fun e w'=>e=.returned (.int .i64 (-1))∧Below w.heap.size w w':=by
 have HR:=Qz.k hr0
 have HLL:=Qz.k hl
 have HE:=Qz.k (EntR.rd he)
 clear hr0 hl he
 go_enter Tryz.func201,Tryz.ntmps201
 go_wp2
 go_loopg [4,5,8] es.length (fun kq v4 v5 v8 W'=>∃ j:Nat,v8=.int .i64 (j:Int)∧kq=es.length-j∧j≤es.length∧Qz (Below w.heap.size w W'))
 case atStart=>exact⟨0,rfl,rfl,by omega,⟨Below.refl _ _⟩⟩
 case round=>
  obtain⟨j,rfl,rfl,hj,HB⟩:=hrel
  by_cases hlt:j<es.length
  ·have c5:decide ((j:Int)<(es.length:Int))=true:=decide_eq_true (by omega)
   have c6:decide (j<es.length)=true:=decide_eq_true hlt
   have n0:(j:Int)<1024:=by have:=HLL.out;omega
   have HW:=Qz.k (show wrap64 ((j:Int)+1)=((j+1:Nat):Int)from by rw [agq (by omega) (by omega)];omega)
   obtain⟨ad,e5,hx0,hx1⟩:=b4k HR.out (j:Int) (by omega) (by omega)
   subst e5
   rw [Int.toNat_natCast]at hx0 hx1
   replace hx0:=(HB.out.cell (World.block_lt_of_cell? w _ hx0)).trans hx0
   replace hx1:=(HB.out.cell (World.block_lt_of_cell? w _ hx1)).trans hx1
   have HEJ:=Qz.k (HE.out j hlt)
   generalize bKk es (j:Int)=x at *
   have HC:=Qz.k (manifest_wrong1.calls x.f0 x.f1 wr HEJ.out.1)
   go_wp2_with (fail)
   refine HC.out.mono ?_
   rintro e w3 ⟨rfl,hb⟩
   have HB3:=Qz.k (aaz HB.out hb)
   clear hb HC hx0 hx1
   go_wp2
   go_roundg (es.length-(j+1))
   case measure=>exact(by omega)
   case rel=>
    (try rw [HW.out])
    exact⟨j+1,rfl,rfl,hlt,HB3⟩
  ·have c5:decide ((j:Int)<(es.length:Int))=false:=decide_eq_false (by omega)
   have c6:decide (j<es.length)=false:=decide_eq_false hlt
   go_wp2
   go_ret
   exact⟨rfl,HB.out⟩
set_option maxHeartbeats 1000000 in
theorem slices_contains75.calls (A0:Option Addr)(c0:Nat)(es:List S75)(w:World)(hr0:Kd.C k75 w A0 es.length es)(hl:es.length<1024)(he:∀ x∈es,EntR x) :
  Calls Tryz.prog 156 #[.slice A0 es.length c0,.func (.func 157) #[] #[]] w fun e w'=>e=.returned (.bool false)∧Below w.heap.size w w':=by
 have HC:=Qz.k (slices_index75.calls A0 c0 es w hr0 hl he)
 clear hr0 hl he
 go_enter Tryz.func156,Tryz.ntmps156
 go_wp2_with (fail)
 refine HC.out.mono ?_
 rintro e w3 ⟨rfl,hb⟩
 have HB:=Qz.k hb
 clear hb HC
 go_wp2
 go_ret
 exact⟨rfl,HB.out⟩
set_option maxHeartbeats 2000000 in
theorem manifest_wrong.calls (ver:Int)(A1:Option Addr)(c1:Nat)(A2:Option Addr)(c2:Nat)(es:List S75)(A3:Option Addr)(c3:Nat)(w:World)(hv:0≤ver∧ver<18446744073709551615)(hr0:Kd.C k75 w A2 es.length es)(hl:es.length<1024)(he:∀ x∈es,EntR x) :
  Calls Tryz.prog 94 #[.agg #[.int .u64 ver,.slice A1 32 c1,.slice A2 es.length c2,.slice A3 32 c3]] w fun e w'=>e=.returned (.int .i64 0)∧Below w.heap.size w w':=by
 have HSI:=Qz.k (fun(W:World) (h:Below w.heap.size w W)=>slices_contains75.calls A2 c2 es W (Kd.acz hr0 h) hl he)
 have HR:=Qz.k hr0
 have HLL:=Qz.k hl
 have HE:=Qz.k (EntR.rd he)
 have v1:decide (ver=18446744073709551615)=false:=decide_eq_false (by omega)
 have v2:¬ ver=18446744073709551615:=by omega
 have v3:(ver == 18446744073709551615)=false:=by simpa using v2
 have l1:decide ((es.length:Int) > 1048576)=false:=decide_eq_false (by omega)
 have l2:decide (1048576<es.length)=false:=decide_eq_false (by omega)
 have l3:decide ((1048576:Int)<(es.length:Int))=false:=decide_eq_false (by omega)
 clear hr0 hl he hv
 go_enter Tryz.func94,Tryz.ntmps94
 go_wp2
 obtain⟨W1,hW1⟩:∃ W1,w.alloc (.cells #[.int .u64 ver,.slice A1 32 c1,.slice A2 es.length c2,.slice A3 32 c3] 65)=W1:=⟨_,rfl⟩
 have HC1:=Qz.k (show W1.heap[w.heap.size]? = some (.cells #[.int .u64 ver,.slice A1 32 c1,.slice A2 es.length c2,.slice A3 32 c3] 65 (0,0))from by rw [←hW1];exact akz w _)
 have HB1:=Qz.k (show Below w.heap.size w W1 from by rw [←hW1];exact aaq (Below.refl _ _) _)
 rw [hW1]
 clear hW1
 go_loopg [4,23] es.length (fun kq v4 v23 W'=>∃ j:Nat,v23=.int .i64 (j:Int)∧kq=es.length-j∧j≤es.length∧Qz (W'.heap[w.heap.size]? = some (.cells #[.int .u64 ver,.slice A1 32 c1,.slice A2 es.length c2,.slice A3 32 c3] 65 (0,0)))∧Qz (Below w.heap.size w W'))
 case atStart=>exact⟨0,rfl,rfl,by omega,HC1,HB1⟩
 case round=>
  obtain⟨j,rfl,rfl,hj,HC,HB⟩:=hrel
  by_cases hlt:j<es.length
  ·have c5:decide ((j:Int)<(es.length:Int))=true:=decide_eq_true (by omega)
   have c6:decide (j<es.length)=true:=decide_eq_true hlt
   have n0:(j:Int)<1024:=by have:=HLL.out;omega
   have HW:=Qz.k (show wrap64 ((j:Int)+1)=((j+1:Nat):Int)from by rw [agq (by omega) (by omega)];omega)
   obtain⟨ad,e5,hx0,hx1⟩:=b4k HR.out (j:Int) (by omega) (by omega)
   subst e5
   rw [Int.toNat_natCast]at hx0 hx1
   replace hx0:=(HB.out.cell (World.block_lt_of_cell? w _ hx0)).trans hx0
   replace hx1:=(HB.out.cell (World.block_lt_of_cell? w _ hx1)).trans hx1
   have HEJ:=Qz.k (HE.out j hlt)
   generalize bKk es (j:Int)=x at *
   have z1:=sizeP_pos x.f1 HEJ.out.2.1 HEJ.out.2.2
   have z2:decide (aOz x.f1=0)=false:=decide_eq_false z1
   have z3:(aOz x.f1 == 0)=false:=by simpa using z1
   have HC9:=Qz.k (fun W=>pad_Size.calls x.f1 (aOz x.f1) W rfl)
   generalize aOz x.f1=sz at *
   have hb1:Below wr.heap.size wr (wr.alloc (.cells #[.string x.f0,.int .i64 x.f1] 75)):=aaq (Below.refl _ _) _
   have HC2:=Qz.k (agz HC.out hb1)
   have HB2:=Qz.k (aaz HB.out hb1)
   clear hb1
   go_wp2_with (fail)
   refine(HC9.out _).mono ?_
   rintro e w3 ⟨rfl,hb⟩
   have HB3:=Qz.k (aaz HB2.out hb)
   have HC3:=Qz.k (agz HC2.out hb)
   clear hb HB HC HC2 HB2 hx0 hx1 HC9
   go_wp2
   go_roundg (es.length-(j+1))
   case measure=>exact(by omega)
   case rel=>
    (try rw [HW.out])
    exact⟨j+1,rfl,rfl,hlt,HC3,HB3⟩
  ·have c5:decide ((j:Int)<(es.length:Int))=false:=decide_eq_false (by omega)
   have c6:decide (j<es.length)=false:=decide_eq_false hlt
   have d0:wr.cell? ⟨w.heap.size,2,none⟩=some (.slice A2 es.length c2):=(aak HC.out 2).trans rfl
   go_wp2_with (fail)
   refine(HSI.out _ HB.out).mono ?_
   rintro e w3 ⟨rfl,hb⟩
   have HB3:=Qz.k (aaz HB.out hb)
   clear hb
   go_wp2
   go_ret
   exact⟨rfl,HB3.out⟩
end Go.Proofs.YthggdomocichdaaGreatDoor.P
namespace Go.Proofs.YthggdomocichdaaGreatDoor.P
open Go.RowKit Go.Maps Go.Proofs.YthggdomocichdaaGreatDoor.Kit Go.Proofs.YthggdomocichdaaGreatDoor.Var Go.Proofs.YthggdomocichdaaGreatDoorW.PrintWords Go.Proofs.YthggdomocichdaaGreatDoorW.PrintLast Go.Proofs.YthggdomocichdaaGreatDoorW.PrintMore
set_option maxHeartbeats 1000000 in
theorem bVq (n:Nat)(w:World)(h:n≤12):Calls Tryz.prog 203 #[.int .u64 (n:Int)] w fun e w'=>e=.returned (.int .i64 (Lib.bitLen n:Int))∧Below w.heap.size w w':=by
 have HC:=Qz.k (fun w1=>bits_Len64.calls (n:Int) (Lib.bitLen n:Int) w1 (by unfold bits_Len64.f;rw [if_pos ⟨by omega,by omega⟩];simp))
 go_enter Tryz.func203,Tryz.ntmps203
 go_wp2_with (fail)
 refine(HC.out _).mono ?_
 rintro e w3 ⟨rfl,nd,rfl⟩
 go_wp2
 go_ret
 exact⟨rfl,(Drawn0.mk ⟨nd,rfl⟩).below⟩
set_option maxHeartbeats 1000000 in
theorem pdqsort.calls (k:Nat)(P0:Nat→Prop)(v:Value)(l r:List ByteArray)(n:Nat)(lim:Int)(w0 w:World)(hn:l.length=n)(hl:n≤12)(hB:Below w0.heap.size w0 w)(ho:Kd.R Kd.string 9 w w0.heap.size P0 v l)(h:slices_insertionSortOrdered_string.f k l 0 (n:Int)=some r) :
  Calls Tryz.prog 202 #[v,.int .i64 0,.int .i64 (n:Int),.int .i64 lim] w fun e w'=>e=.returned (.tuple #[])∧Kd.R Kd.string 9 w' w0.heap.size (fun k=>P0 k∨w.heap.size≤k) v r∧Below w0.heap.size w0 w'∧Kept w w' (fun k=>P0 k):=by
 have HC:=Qz.k (slices_insertionSortOrdered_string.calls k P0 v l 0 (n:Int) r w0 w hB ho h)
 have HW:=Qz.k (show wrap64 ((n:Int)-0)=(n:Int)from by rw [agq (by omega) (by omega)];omega)
 have c1:decide ((n:Int)≤12)=true:=decide_eq_true (by omega)
 have c2:decide (n≤12)=true:=decide_eq_true (by omega)
 have e1:wrap64 ((n:Int)-0)=(n:Int):=HW.out
 have e2:wrap64 (n:Int)=(n:Int):=by rw [agq (by omega) (by omega)]
 clear hB ho h hn
 go_enter Tryz.func202,Tryz.ntmps202
 go_wp2
 refine wp_loop_rounds 1 ?_
 rw [rounds_succ]
 go_wp2_with (fail)
 refine HC.out.mono ?_
 rintro e w3 ⟨rfl,ho,hb,hk⟩
 have HO:=Qz.k ho
 have HB:=Qz.k hb
 have HK:=Qz.k hk
 clear ho hb hk HC
 go_wp2
 (try simp only [Exit.inBlock,Exit.then])
 refine bodyPost_ret (results_none rfl _ _ _) rfl ?_
 exact⟨rfl,HO.out,HB.out,HK.out⟩
set_option maxHeartbeats 1000000 in
theorem slices_Sort.calls (k:Nat)(P0:Nat→Prop)(A:Option Addr)(c:Nat)(l r:List ByteArray)(w0 w:World)(hl:l.length≤12)(hB:Below w0.heap.size w0 w)(ho:Kd.R Kd.string 9 w w0.heap.size P0 (.slice A l.length c) l)(h:slices_insertionSortOrdered_string.f k l 0 (l.length:Int)=some r) :
  Calls Tryz.prog 158 #[.slice A l.length c] w fun e w'=>e=.returned (.tuple #[])∧Kd.R Kd.string 9 w' w0.heap.size (fun k=>P0 k∨w.heap.size≤k) (.slice A l.length c) r∧Below w0.heap.size w0 w'∧Kept w w' (fun k=>P0 k):=by
 obtain⟨lim,hlim⟩:∃ lim:Int,(Lib.bitLen l.length:Int)=lim:=⟨_,rfl⟩
 have HC:=Qz.k (fun(w1:World) (h1:Below w.heap.size w w1)=>pdqsort.calls k P0 (.slice A l.length c) l r l.length lim w0 w1 rfl hl (aaz hB h1) (Kd.ahz ho h1) h)
 have HL:=Qz.k (fun w1=>bVq l.length w1 hl)
 have HW:=Qz.k (show IntKind.u64.wrap (l.length:Int)=(l.length:Int)from by rw [aMq];omega)
 have e1:=HW.out
 rw [hlim]at HL
 have HB0:=Qz.k hB
 generalize l.length=n at *
 clear hB ho h hlim
 go_enter Tryz.func158,Tryz.ntmps158
 go_wp2_with (fail)
 refine(HL.out _).mono ?_
 rintro e w3 ⟨rfl,hb⟩
 have HC3:=Qz.k (HC.out w3 hb)
 have HB3:=Qz.k (aaz HB0.out hb)
 have HK3:=Qz.k (Kept.of_below hb (fun k=>P0 k))
 have HS3:=Qz.k hb.size
 clear hb HC HB0 HL
 go_wp2_with (fail)
 refine HC3.out.mono ?_
 rintro e w4 ⟨rfl,ho,hb,hk⟩
 have HO:=Qz.k (Kd.R_mono ho (fun k hk=>hk.imp_right (Nat.le_trans HS3.out)))
 have HB:=Qz.k hb
 have HK:=Qz.k (HK3.out.then_ hk (fun k hk=>.inl hk))
 clear ho hb hk HC3
 go_wp2
 (try simp only [Exit.inBlock,Exit.then])
 refine bodyPost_end (results_none rfl _ _ _) rfl ?_
 exact⟨rfl,HO.out,HB.out,HK.out⟩
section
variable {H:Type}{P:Program}{k:TypeId}{R:Value→Option (DataW H×List MemPlace)}{W W':World}{b n:Nat}{D:DataW H}
theorem mown_at (h:W.ownsMap P k R b n D)(e:W'.heap[b]? = W.heap[b]?):W'.ownsMap P k R b n D:=by
 obtain⟨es,clock,hb,r⟩:=h
 exact⟨es,clock,e.trans hb,r⟩
theorem aVk (h:W.ownsMap P k R b n D)(hb:Below W.heap.size W W'):W'.ownsMap P k R b n D:=mown_at h (hb.block b h.lt)
theorem btq {α : Type}{d:Kd α}{e base:Nat}{ok:Nat→Prop}{v:Value}{xs:List α}(h:d.R e W base ok v xs)(hm:W.ownsMap P k R b n D):d.R e W base (fun k=>ok k∧k≠b) v xs:=by
 refine Kd.R_mono (Kd.axz h) (fun j hj=>⟨hj.1,?_⟩)
 rintro rfl
 obtain⟨q,hq,cells,hc⟩:=hj.2.2.2
 obtain⟨es,clock,hb,r⟩:=hm
 rw [hb]at hc
 cases hc
theorem mown_ne {j:Nat}{cells:Array Value}{t:TypeId}{q:Nat×Nat}(hm:W.ownsMap P k R b n D)(h:W.heap[j]? = some (.cells cells t q)):j≠b:=by
 rintro rfl
 obtain⟨es,clock,hb,r⟩:=hm
 rw [hb]at h
 cases h
theorem b0q {α : Type}{d:Kd α}{e base:Nat}{ok:Nat→Prop}{v:Value}{xs:List α}(hm:W.ownsMap P k R b n D)(h:d.R e W base ok v xs)(hg:W.grownBy W' v.ownBlock):W'.ownsMap P k R b n D:=by
 refine hm.kept hg (fun e1=>?_)
 obtain⟨cells,hc⟩:=Kd.aJz h b e1.symm
 obtain⟨es,clock,hb,r⟩:=hm
 rw [hb]at hc
 cases hc
end
theorem bFz {W:World}{g:Nat}{s:ByteArray}(hcell:W.cell? ⟨g,0,none⟩=some (.string s)):Kd.C Kd.string W (some ⟨g,0,none⟩) 1 [s]:=by
 refine⟨rfl,by decide,fun _=>⟨_,rfl,fun j p hj=>?_⟩⟩
 cases j with
 |succ j=>simp at hj
 |zero=>
  simp only [List.getElem?_cons_zero,Option.some.injEq]at hj
  subst hj
  refine⟨[.string s],rfl,rfl,fun i u hu=>?_⟩
  cases i with
  |succ i=>simp at hu
  |zero=>
   simp only [List.getElem?_cons_zero,Option.some.injEq]at hu
   subst hu
   exact hcell
theorem lawS : Keyed Tryz.prog 9:=string_keyed Tryz.underlying9
theorem zeroI3 (w:World):(zeroValue 3).run Tryz.prog w=.ok (.int .i64 0) w:=by kernel_rfl
def kyS (s:ByteArray):Lit := .string s.data.toList
theorem keyS (s:ByteArray)(h:s.size≤64):keyOf Tryz.prog 9 (.string s)=some (kyS s):=by
 have h2:s.size≤maxLen:=Nat.le_trans h (by decide)
 simp [keyOf,Tryz.underlying9,mapKey,h2,kyS]
theorem isKeyS (s:ByteArray):WideAt.IsKeyLit (kyS s):=trivial
theorem sort_none (k:Nat):slices_insertionSortOrdered_string.f (k+1) [] 0 (([]:List ByteArray).length:Int)=some []:=by
 unfold slices_insertionSortOrdered_string.f slices_insertionSortOrdered_string.l0
 rw [if_neg (by rw [agq (by omega) (by omega)];decide)]
theorem sort_two (a b:ByteArray)(h:Op.bytesLess b.toList a.toList=false):slices_insertionSortOrdered_string.f 4 [a,b] 0 (([a,b]:List ByteArray).length:Int)=some [a,b]:=by
 have hl:cmp_Less_string.f b a=some false:=by
  unfold cmp_Less_string.f cmp_isNaN_string.f
  simp [h]
 unfold slices_insertionSortOrdered_string.f
 have e1:wrap64 ((0:Int)+1)=1:=agq (by omega) (by omega)
 rw [e1]
 simp [slices_insertionSortOrdered_string.l0,slices_insertionSortOrdered_string.l1,rdOf,show wrap64 0=0 from agq (by omega) (by omega),hl,show wrap64 ((1:Int)+1)=2 from agq (by omega) (by omega),show wrap64 ((1:Int)-1)=0 from agq (by omega) (by omega),show wrap64 2=2 from agq (by omega) (by omega),show wrap64 1=1 from agq (by omega) (by omega)]
set_option maxHeartbeats 2000000 in
theorem manifest_directory0.calls (A0:Option Addr)(c0:Nat)(w:World) :
  Calls Tryz.prog 95 #[.slice A0 0 c0] w fun e w'=>∃ (b:Nat),e=.returned (.tuple #[.slice none 0 0,.map (some b)])∧Below w.heap.size w w':=by
 have hmm:=@run_makeMap Tryz.prog
 go_enter Tryz.func95,Tryz.ntmps95
 go_wp2
 clear hmm
 refine wp_loop_rounds 1 ?_
 rw [rounds_succ]
 go_wp2_with (fail)
 have HB1:=Qz.k (aaq (Below.refl w.heap.size w) (.map #[] 0))
 refine(slices_Sort.calls 1 (fun _=>True) none 0 [] [] w (w.alloc (.map #[] 0)) (by decide) HB1.out (Kd.ayz _ _ _ _ _) (sort_none 0)).mono ?_
 rintro e w4 ⟨rfl,ho,hb,hk⟩
 have HB:=Qz.k hb
 clear ho hb hk
 go_wp2
 refine wp_loop_rounds 1 ?_
 rw [rounds_succ]
 go_wp2
 go_ret2
 exact⟨_,rfl,HB.out⟩
set_option maxHeartbeats 4000000 in
theorem manifest_directory2.calls (A0:Option Addr)(c0:Nat)(x y:S75)(w:World)(hr0:Kd.C k75 w A0 2 [x,y])(hxs:x.f0.size≤64)(hys:y.f0.size≤64)(hne:kyS x.f0≠kyS y.f0)(hlt:Op.bytesLess y.f0.toList x.f0.toList=false) :
  Calls Tryz.prog 95 #[.slice A0 2 c0] w fun e w'=>∃ (v:Value) (b:Nat) (D:DataW Unit),e=.returned (.tuple #[v,.map (some b)])∧Kd.R Kd.string 9 w' w.heap.size (fun k=>True) v [x.f0,y.f0]∧w'.ownsMap Tryz.prog 9 (plainElem Tryz.prog 3) b 4 D∧D.atKey (kyS x.f0) (.lit (.int .i64 0))=.lit (.int .i64 0)∧D.atKey (kyS y.f0) (.lit (.int .i64 0))=.lit (.int .i64 1)∧Below w.heap.size w w':=by
 have hmm:=@run_makeMap Tryz.prog
 have HM0:=Qz.k (World.ownsMap_made w Tryz.prog 9 (plainElem (H:=Unit) Tryz.prog 3))
 have HB0:=Qz.k (aaq (Below.refl w.heap.size w) (.map #[] 0))
 obtain⟨ad,e5,hx0,hx1⟩:=b4k hr0 0 (by omega) (by omega)
 subst e5
 obtain⟨ad',e5',hy0,hy1⟩:=b4k hr0 1 (by omega) (by omega)
 injection e5' with e5'
 subst e5'
 replace hx0:w.cell? ad=some (.string x.f0):=hx0
 replace hx1:w.cell? ⟨ad.block,ad.off+1,none⟩=some (.int .i64 x.f1):=hx1
 replace hy0:w.cell? ⟨ad.block,ad.off+2,none⟩=some (.string y.f0):=hy0
 replace hy1:w.cell? ⟨ad.block,ad.off+2+1,none⟩=some (.int .i64 y.f1):=hy1
 have HKX:=Qz.k (keyS x.f0 hxs)
 have HKY:=Qz.k (keyS y.f0 hys)
 have HNE:=Qz.k hne
 have HLT:=Qz.k hlt
 have HX0:=Qz.k hx0
 have HX1:=Qz.k hx1
 have HY0:=Qz.k hy0
 have HY1:=Qz.k hy1
 clear hx0 hx1 hy0 hy1 hne hlt hxs hys hr0
 go_enter Tryz.func95,Tryz.ntmps95
 go_wp2
 clear hmm
 obtain⟨W0,hW0⟩:∃ W0,w.alloc (.map #[] 0)=W0:=⟨_,rfl⟩
 rw [hW0]at HM0 HB0
 rw [hW0]
 clear hW0
 refine wp_loop_rounds 3 ?_
 rw [rounds_succ]
 have HR0:=Qz.k (Kd.ayz Kd.string 9 W0 w.heap.size (fun _=>True))
 have hx0:=abz HB0.out HX0.out
 have hx1:=abz HB0.out HX1.out
 go_upto_region 6 with(fail)
 have hb1:=aaq (Below.refl W0.heap.size W0) (.cells #[.string x.f0,.int .i64 x.f1] 75)
 obtain⟨g10,hg1⟩:∃ g1,W0.heap.size=g1:=⟨_,rfl⟩
 obtain⟨W10,hW1⟩:∃ W1,W0.alloc (.cells #[.string x.f0,.int .i64 x.f1] 75)=W1:=⟨_,rfl⟩
 have HC1:=Qz.k (show W10.heap[g10]? = some (.cells #[.string x.f0,.int .i64 x.f1] 75 (0,0))from by rw [←hW1,←hg1];exact akz W0 _)
 rw [hW1]at hb1
 have HB1:=Qz.k (aaz HB0.out hb1)
 have HM1:=Qz.k (aVk HM0.out hb1)
 have HR1:=Qz.k (Kd.ahz HR0.out hb1)
 rw [hW1,hg1]
 have hc0:W10.cell? ⟨g10,0,none⟩=some (.string x.f0):=(aak HC1.out 0).trans rfl
 have hc1:W10.cell? ⟨g10,1,none⟩=some (.int .i64 x.f1):=(aak HC1.out 1).trans rfl
 have hh0:Maps.has (DataW.map []:DataW Unit) (kyS x.f0)=false:=by simp [Maps.has]
 clear hb1 hW1 hg1 hx0 hx1 HB0 HM0 HR0
 go_upto_region 9 with(first
  |(at_lookup;(refine wpList_lookup_own_ok_int _ rfl _ _ 124 rfl 9 3 .i64 lawS Tryz.underlying124 Tryz.underlying3 (zeroI3 _) w.heap.size _ _ rfl HM1.out _ _ rfl HKX.out ?_;intro c hat hwc;rw [hh0];clear hat hwc))
  |(at_mapUpdate;refine wpList_mapUpdate_own _ rfl _ _ _ 124 rfl 9 3 lawS Tryz.underlying124 _ w.heap.size 0 _ rfl HM1.out (by unfold maxLen;omega) _ _ _ rfl rfl HKX.out _ [] (plainElem_int Tryz.underlying3 (by decide)) ?_;intro W20 hown2 hgrow2;have HM2:=Qz.k hown2;have HB2:=Qz.k (HB1.out.grown hgrow2 HB1.out.size (fun j hj=>by injection hj with hj;omega));have HC2:=Qz.k (ark HC1.out hgrow2 (fun e=>by injection e with e;exact mown_ne HM1.out HC1.out e));have HR2:=Qz.k (Kd.R_mono (Kd.aUz (btq HR1.out HM1.out) hgrow2 (fun k hk e=>hk.2 (by injection e))) (fun k hk=>hk.1));clear hown2 hgrow2))
 clear hc0 hc1 hh0
 have hc0:W20.cell? ⟨g10,0,none⟩=some (.string x.f0):=(aak HC2.out 0).trans rfl
 have hb3:=aaq (Below.refl W20.heap.size W20) (.cells #[.string x.f0] 9)
 have HB3:=Qz.k (aaz HB2.out hb3)
 have HM3:=Qz.k (aVk HM2.out hb3)
 have HR3:=Qz.k (Kd.ahz HR2.out hb3)
 have HS3:=Qz.k (bFz (W:=W20.alloc (.cells #[.string x.f0] 9)) (g:=W20.heap.size) (s:=x.f0) ((aak (akz W20 _) 0).trans rfl))
 clear hb3 HB1 HM1 HR1 HC1 HB2 HM2 HC2 HR2
 go_upto_region 10 with(first
  |((with_reducible refine agk (b := .append) (xs:=#[.tmp 31,.tmp 34]) rfl ?_);at_builtin;refine Kd.ahq Kd.string (w0:=w) w.heap.size rfl (.tmp 31) (.tmp 34) 54 9 (.string ⟨#[]⟩) 16 rfl Tryz.underlying54 info9 rfl (by decide) (by decide) (.slice none 0 0) [] [x.f0] _ 1 1 (fun _=>True) (fun k=>True∧some k≠Value.ownBlock (.slice none 0 0)) rfl rfl HR3.out HS3.out (fun y cs h=>h) (fun k hk=>hk) (fun _ _=>trivial) HB3.out HB3.out.size (by simp) ?_;intro v0 W40 ho hb hg hat;have HR40:=Qz.k ho;have HB40:=Qz.k hb;have HM40:=Qz.k (b0q HM3.out HR3.out hg);clear ho hb hg hat HR3 HB3 HM3 HS3))
 clear hc0
 go_wp2
 rw [rounds_succ]
 have hx0:=abz HB40.out HY0.out
 have hx1:=abz HB40.out HY1.out
 go_upto_region 6 with(fail)
 have hb1:=aaq (Below.refl W40.heap.size W40) (.cells #[.string y.f0,.int .i64 y.f1] 75)
 obtain⟨g11,hg1⟩:∃ g1,W40.heap.size=g1:=⟨_,rfl⟩
 obtain⟨W11,hW1⟩:∃ W1,W40.alloc (.cells #[.string y.f0,.int .i64 y.f1] 75)=W1:=⟨_,rfl⟩
 have HC1:=Qz.k (show W11.heap[g11]? = some (.cells #[.string y.f0,.int .i64 y.f1] 75 (0,0))from by rw [←hW1,←hg1];exact akz W40 _)
 rw [hW1]at hb1
 have HB1:=Qz.k (aaz HB40.out hb1)
 have HM1:=Qz.k (aVk HM40.out hb1)
 have HR1:=Qz.k (Kd.ahz HR40.out hb1)
 rw [hW1,hg1]
 have hc0:W11.cell? ⟨g11,0,none⟩=some (.string y.f0):=(aak HC1.out 0).trans rfl
 have hc1:W11.cell? ⟨g11,1,none⟩=some (.int .i64 y.f1):=(aak HC1.out 1).trans rfl
 have hh0:Maps.has ((DataW.map []:DataW Unit).put (kyS x.f0) (.lit (.int .i64 0))) (kyS y.f0)=false:=by rw [has_put_other HNE.out.symm];simp [Maps.has]
 clear hb1 hW1 hg1 hx0 hx1 HB40 HM40 HR40
 go_upto_region 9 with(first
  |(at_lookup;(refine wpList_lookup_own_ok_int _ rfl _ _ 124 rfl 9 3 .i64 lawS Tryz.underlying124 Tryz.underlying3 (zeroI3 _) w.heap.size _ _ rfl HM1.out _ _ rfl HKY.out ?_;intro c hat hwc;rw [hh0];clear hat hwc))
  |(at_mapUpdate;refine wpList_mapUpdate_own _ rfl _ _ _ 124 rfl 9 3 lawS Tryz.underlying124 _ w.heap.size 1 _ rfl HM1.out (by unfold maxLen;omega) _ _ _ rfl rfl HKY.out _ [] (plainElem_int Tryz.underlying3 (by decide)) ?_;intro W21 hown2 hgrow2;have HM2:=Qz.k hown2;have HB2:=Qz.k (HB1.out.grown hgrow2 HB1.out.size (fun j hj=>by injection hj with hj;omega));have HC2:=Qz.k (ark HC1.out hgrow2 (fun e=>by injection e with e;exact mown_ne HM1.out HC1.out e));have HR2:=Qz.k (Kd.R_mono (Kd.aUz (btq HR1.out HM1.out) hgrow2 (fun k hk e=>hk.2 (by injection e))) (fun k hk=>hk.1));clear hown2 hgrow2))
 clear hc0 hc1 hh0
 have hc0:W21.cell? ⟨g11,0,none⟩=some (.string y.f0):=(aak HC2.out 0).trans rfl
 have hb3:=aaq (Below.refl W21.heap.size W21) (.cells #[.string y.f0] 9)
 have HB3:=Qz.k (aaz HB2.out hb3)
 have HM3:=Qz.k (aVk HM2.out hb3)
 have HR3:=Qz.k (Kd.ahz HR2.out hb3)
 have HS3:=Qz.k (bFz (W:=W21.alloc (.cells #[.string y.f0] 9)) (g:=W21.heap.size) (s:=y.f0) ((aak (akz W21 _) 0).trans rfl))
 clear hb3 HB1 HM1 HR1 HC1 HB2 HM2 HC2 HR2
 go_upto_region 10 with(first
  |((with_reducible refine agk (b := .append) (xs:=#[.tmp 31,.tmp 34]) rfl ?_);at_builtin;refine Kd.ahq Kd.string (w0:=w) w.heap.size rfl (.tmp 31) (.tmp 34) 54 9 (.string ⟨#[]⟩) 16 rfl Tryz.underlying54 info9 rfl (by decide) (by decide) v0 [x.f0] [y.f0] _ 1 1 (fun _=>True) (fun k=>True∧some k≠Value.ownBlock v0) rfl rfl HR3.out HS3.out (fun y cs h=>h) (fun k hk=>hk) (fun _ _=>trivial) HB3.out HB3.out.size (by simp) ?_;intro v1 W41 ho hb hg hat;have HR41:=Qz.k ho;have HB41:=Qz.k hb;have HM41:=Qz.k (b0q HM3.out HR3.out hg);clear ho hb hg hat HR3 HB3 HM3 HS3))
 clear hc0
 go_wp2
 rw [rounds_succ]
 obtain⟨A4,c4,e4⟩:=Kd.afz HR41.out
 replace e4:v1=.slice A4 2 c4:=e4
 subst e4
 have HT2:=Qz.k (HM41.out.tidy lawS)
 go_wp2_with (fail)
 refine(slices_Sort.calls 4 (fun k=>True∧k≠w.heap.size) A4 c4 [x.f0,y.f0] [x.f0,y.f0] w W41 (by simp) HB41.out (btq HR41.out HM41.out) (sort_two x.f0 y.f0 HLT.out)).mono ?_
 rintro e W5 ⟨rfl,ho,hb,hk⟩
 have HR5:=Qz.k ho
 have HB5:=Qz.k hb
 have HM5:=Qz.k (mown_at HM41.out (hk.2 _ HM41.out.lt (fun h=>h.2 rfl)))
 clear ho hb hk HR41 HB41 HM41
 obtain⟨ad5,e5,hx0⟩:=Kd.aGz (Kd.ack HR5.out).2.2 0 (by omega) (by simp)
 subst e5
 obtain⟨ad6,e6,hy0⟩:=Kd.aGz (Kd.ack HR5.out).2.2 1 (by omega) (by simp)
 injection e6 with e6
 subst e6
 replace hx0:W5.cell? ad5=some (.string x.f0):=hx0
 replace hy0:W5.cell? ⟨ad5.block,ad5.off+1,none⟩=some (.string y.f0):=hy0
 have HYC:=Qz.k hy0
 go_wp2
 refine wp_loop_rounds 3 ?_
 rw [rounds_succ]
 go_upto_region 16 with(first
  |(at_mapUpdate;refine wpList_mapUpdate_own _ rfl _ _ _ 124 rfl 9 3 lawS Tryz.underlying124 _ w.heap.size 2 _ rfl HM5.out (by unfold maxLen;omega) _ _ _ rfl rfl HKX.out _ [] (plainElem_int Tryz.underlying3 (by decide)) ?_;intro W6 hown2 hgrow2;have HM6:=Qz.k hown2;have HB6:=Qz.k (HB5.out.grown hgrow2 HB5.out.size (fun j hj=>by injection hj with hj;omega));have HR6:=Qz.k (Kd.R_mono (Kd.aUz (btq HR5.out HM5.out) hgrow2 (fun k hk e=>hk.2 (by injection e))) (fun k hk=>hk.1));clear hown2 hgrow2))
 have HT6:=Qz.k (HM6.out.tidy lawS)
 clear hx0 hy0
 obtain⟨ad6,e6,hy0⟩:=Kd.aGz (Kd.ack HR6.out).2.2 1 (by omega) (by simp)
 injection e6 with e6
 subst e6
 replace hy0:W6.cell? ⟨ad5.block,ad5.off+1,none⟩=some (.string y.f0):=hy0
 go_wp2
 rw [rounds_succ]
 go_upto_region 16 with(first
  |(at_mapUpdate;refine wpList_mapUpdate_own _ rfl _ _ _ 124 rfl 9 3 lawS Tryz.underlying124 _ w.heap.size 3 _ rfl HM6.out (by unfold maxLen;omega) _ _ _ rfl rfl HKY.out _ [] (plainElem_int Tryz.underlying3 (by decide)) ?_;intro W7 hown2 hgrow2;have HM7:=Qz.k hown2;have HB7:=Qz.k (HB6.out.grown hgrow2 HB6.out.size (fun j hj=>by injection hj with hj;omega));have HR7:=Qz.k (Kd.R_mono (Kd.aUz (btq HR6.out HM6.out) hgrow2 (fun k hk e=>hk.2 (by injection e))) (fun k hk=>hk.1));clear hown2 hgrow2))
 go_wp2
 rw [rounds_succ]
 go_wp2
 go_ret2
 refine⟨_,_,_,rfl,Kd.R_mono HR7.out (fun _ _=>trivial),HM7.out,?_,?_,HB7.out⟩
 ·rw [atKey_put_other HNE.out,atKey_put_same HT2.out.isMap (isKeyS _)]
 ·rw [atKey_put_same HT6.out.isMap (isKeyS _)]
theorem aRq (A0:Option Addr)(c0:Nat)(b:List Int)(v:Int)(w:World)(hr0:Kd.C (Kd.int .u8) w A0 b.length b)(hc0:b.length≤c0)(hb:b.length+10<140737488355328)(h0:0≤v)(h1:v<18446744073709551616) :
  Calls Tryz.prog 43 #[.slice A0 b.length c0,.int .u64 v] w fun e w'=>∃ v0_:Value,e=.returned v0_∧Kd.R (Kd.int .u8) 5 w' w.heap.size (fun _=>True) v0_ (b++vn v.toNat)∧Below w.heap.size w w':=by
 obtain⟨k,hk⟩:=(bfk b v hb h0 h1).get
 exact varint_Append.calls k A0 c0 b v _ w hr0 hc0 hk
def man0 (ver:Int)(prev root:List Int):List Int:=((((([67,83,75,49]:List Int)++fixB 8 ver)++prev)++vn 0)++vn 0)++root
theorem lookS {W:World}{b n:Nat}{D:DataW Unit}(hm:W.ownsMap Tryz.prog 9 (plainElem Tryz.prog 3) b n D){s:ByteArray}{i:Int}(hk:keyOf Tryz.prog 9 (.string s)=some (kyS s))(hd:D.atKey (kyS s) (.lit (.int .i64 0))=.lit (.int .i64 i)) :
  (Instr.lookup 124 (.map (some b)) (.string s) false).run Tryz.prog W=.ok (.int .i64 i) W:=by
 obtain⟨c,hrun,hat,_⟩:=hm.lookup_int lawS Tryz.underlying124 Tryz.underlying3 (zeroI3 _) hk
 rw [hd]at hat
 injection hat with hat
 injection hat with _ hat
 rw [hrun,hat]
theorem vn0 : vn 0=[0]:=by rw [aHq 0 (by decide)];rfl
set_option maxHeartbeats 4000000 in
theorem manifest_Encode0.calls (ver:Int)(A1:Option Addr)(c1:Nat)(prev:List Int)(A2:Option Addr)(c2:Nat)(A3:Option Addr)(c3:Nat)(root:List Int)(w:World)(hv:0≤ver∧ver<18446744073709551615)(hr1:Kd.C (Kd.int .u8) w A1 32 prev)(hr2:Kd.C k75 w A2 0 [])(hr3:Kd.C (Kd.int .u8) w A3 32 root) :
  Calls Tryz.prog 51 #[.agg #[.int .u64 ver,.slice A1 32 c1,.slice A2 0 c2,.slice A3 32 c3]] w fun e w'=>∃ (v:Value),e=.returned (.tuple #[v,.int .i64 0])∧Kd.R (Kd.int .u8) 5 w' w.heap.size (fun _=>True) v (man0 ver prev root)∧Below w.heap.size w w':=by
 have HWR:=Qz.k (fun(W:World) (h:Below w.heap.size w W)=>manifest_wrong.calls ver A1 c1 A2 c2 [] A3 c3 W hv (Kd.acz hr2 h) (by simp) (by simp))
 have HP:=Qz.k hr1
 have HRT:=Qz.k hr3
 have HP32:=Qz.k (show prev.length=32 from hr1.1)
 have HR32:=Qz.k (show root.length=32 from hr3.1)
 have HFX:=Qz.k (a2k 8 (by decide) ver)
 have nFX:=Qz.k (ank ver 8)
 have HFIN:=Qz.k (show((((([67,83,75,49]:List Int)++fixB 8 ver)++prev)++vn 0)++vn 0)++root=man0 ver prev root from rfl)
 generalize man0 ver prev root=RES at *
 have HV0:=Qz.k (vn0)
 generalize fixB 8 ver=FX at *
 clear hv hr1 hr2 hr3
 go_enter Tryz.func51,Tryz.ntmps51
 go_wp2_with (fail)
 have hb0:=aaq (Below.refl w.heap.size w) (.cells #[.int .u64 ver,.slice A1 32 c1,.slice A2 0 c2,.slice A3 32 c3] 65)
 obtain⟨W0,hW0⟩:∃ W0,w.alloc (.cells #[.int .u64 ver,.slice A1 32 c1,.slice A2 0 c2,.slice A3 32 c3] 65)=W0:=⟨_,rfl⟩
 have HC:=Qz.k (show W0.heap[w.heap.size]? = some (.cells #[.int .u64 ver,.slice A1 32 c1,.slice A2 0 c2,.slice A3 32 c3] 65 (0,0))from by rw [←hW0];exact akz w _)
 rw [hW0]at hb0
 have HB0:=Qz.k hb0
 rw [hW0]
 clear hb0 hW0
 refine(HWR.out _ HB0.out).mono ?_
 rintro e W1 ⟨rfl,hb⟩
 have HC1:=Qz.k (agz HC.out hb)
 have HB1:=Qz.k (aaz HB0.out hb)
 clear hb HB0 HC
 have hc0:W1.cell? ⟨w.heap.size,0,none⟩=some (.int .u64 ver):=(aak HC1.out 0).trans rfl
 have hc1:W1.cell? ⟨w.heap.size,1,none⟩=some (.slice A1 32 c1):=(aak HC1.out 1).trans rfl
 have hc2:W1.cell? ⟨w.heap.size,2,none⟩=some (.slice A2 0 c2):=(aak HC1.out 2).trans rfl
 have hc3:W1.cell? ⟨w.heap.size,3,none⟩=some (.slice A3 32 c3):=(aak HC1.out 3).trans rfl
 go_wp2_with (fail)
 refine(manifest_directory0.calls A2 c2 _).mono ?_
 rintro e W2 ⟨bM,rfl,hb⟩
 have HC2:=Qz.k (agz HC1.out hb)
 have HW2:=Qz.k (aaz HB1.out hb)
 clear hc0 hc1 hc2 hc3 hb HC1 HB1 HWR
 have HB:=Qz.k (Below.refl W2.heap.size W2)
 have HK0:=Qz.k (show W2.cell? ⟨w.heap.size,0,none⟩=some (.int .u64 ver)from(aak HC2.out 0).trans rfl)
 have HK1:=Qz.k (show W2.cell? ⟨w.heap.size,1,none⟩=some (.slice A1 32 c1)from(aak HC2.out 1).trans rfl)
 have HK2:=Qz.k (show W2.cell? ⟨w.heap.size,2,none⟩=some (.slice A2 0 c2)from(aak HC2.out 2).trans rfl)
 have HK3:=Qz.k (show W2.cell? ⟨w.heap.size,3,none⟩=some (.slice A3 32 c3)from(aak HC2.out 3).trans rfl)
 have HP2:=Qz.k (Kd.acz HP.out HW2.out)
 have HRT2:=Qz.k (Kd.acz HRT.out HW2.out)
 clear HP HRT
 have hc0:=abz HB.out HK0.out
 have kc:=fun(w:World) (C:Array Value) (n c:Nat)=>Lib.run_convert_bytes_const (P:=Tryz.prog) w 27 5 C n c Tryz.underlying27 Tryz.underlying5
 have hc0a:=abz (aaq (Below.refl W2.heap.size W2) (.cells #[.int .u8 67,.int .u8 83,.int .u8 75,.int .u8 49] 5 (4,5))) HK0.out
 go_wp2_with (fail)
 clear kc hc0a
 obtain⟨g3,hg3⟩:∃ g_,W2.heap.size=g_:=⟨_,rfl⟩
 obtain⟨W3,hW3⟩:∃ W_,W2.alloc (.cells #[.int .u8 67,.int .u8 83,.int .u8 75,.int .u8 49] 5 (4,5))=W_:=⟨_,rfl⟩
 have hb3:=aaq (Below.refl W2.heap.size W2) (.cells #[.int .u8 67,.int .u8 83,.int .u8 75,.int .u8 49] 5 (4,5))
 have hk3:W3.heap[g3]? = some (.cells #[.int .u8 67,.int .u8 83,.int .u8 75,.int .u8 49] 5 (4,5)):=by rw [←hW3,←hg3];exact World.alloc_heap_new W2 _
 have HL1:=Qz.k (show Kd.C (Kd.int .u8) W3 (some ⟨g3,0,none⟩) 4 [67,83,75,49]from C_bytes (xs:=[67,83,75,49]) (by decide) (fun j x hj=>by
  have hc:W3.cell? ⟨g3,j,none⟩=#[Value.int .u8 67,.int .u8 83,.int .u8 75,.int .u8 49][j]? := by simp [World.cell?,hk3]
  rw [hc]
  match j,hj with
  | 0,h=>(simp only [List.getElem?_cons_zero,Option.some.injEq]at h;subst h;rfl)
  | 1,h=>(simp only [List.getElem?_cons_succ,List.getElem?_cons_zero,Option.some.injEq]at h;subst h;rfl)
  | 2,h=>(simp only [List.getElem?_cons_succ,List.getElem?_cons_zero,Option.some.injEq]at h;subst h;rfl)
  | 3,h=>(simp only [List.getElem?_cons_succ,List.getElem?_cons_zero,Option.some.injEq]at h;subst h;rfl)
  |j+4,h=>simp at h))
 rw [hW3]at hb3
 rw [hW3,hg3]
 replace HB:=Qz.k (aaz HB.out hb3)
 clear hb3 hk3 hW3 hg3
 refine(HFX.out _).mono ?_
 rintro e W4 ⟨v4,rfl,ho,hb⟩
 obtain⟨A4,c4,e4⟩:=Kd.afz ho
 subst e4
 have HS4:=Qz.k (Kd.ack ho).2.2
 replace HL1:=Qz.k (Kd.acz HL1.out hb)
 replace HB:=Qz.k (aaz HB.out hb)
 clear ho hb hc0
 have hc1:=abz HB.out HK1.out
 go_wp2_with (first
  |((with_reducible refine agk (b := .append) (xs:=#[.tmp 24,.tmp 27]) rfl ?_);at_builtin;refine bwq rfl (.tmp 24) (.tmp 27) 27 5 1 rfl Tryz.underlying27 info5 _ 4 [67,83,75,49] FX _ _ _ rfl rfl HL1.out (HS4.out) (by have:=nFX.out;omega) (by have:=nFX.out;omega) (by have:=nFX.out;omega) ?_;intro v_L2 W5 ho hb;obtain⟨L2,hL2⟩:∃ L_,([67,83,75,49]:List Int)++FX=L_:=⟨_,rfl⟩;rw [hL2]at ho;have nL2:=Qz.k (show L2.length=12 from by rw [←hL2,List.length_append];have:=nFX.out;simp;omega);have HL2:=Qz.k hL2;clear hL2;obtain⟨A_L2,c_L2,e_L2⟩:=Kd.afz ho;subst e_L2;have HO:=Qz.k (Kd.aiq ho HB.out.size);replace HB:=Qz.k (aaz HB.out hb);clear ho hb;(try clear hc1);have hc1:=abz HB.out HK1.out)
  |((with_reducible refine agk (b := .append) (xs:=#[.tmp 29,.tmp 31]) rfl ?_);at_builtin;refine Kd.ahq (Kd.int .u8) (w0:=W2) W2.heap.size rfl (.tmp 29) (.tmp 31) 27 5 (.int .u8 0) 1 rfl Tryz.underlying27 info5 rfl (by decide) (by omega) (.slice A_L2 L2.length c_L2) L2 prev _ _ _ (fun _=>True) (fun _=>False) rfl rfl HO.out (Kd.acz HP2.out HB.out) (fun _ _ h=>h) (fun _ h=>h.elim) (fun _ _=>trivial) (HB.out) (Below.size (HB.out)) (by have:=nL2.out;omega) ?_;intro v_L3 W6 ho hb hg hat;obtain⟨L3,hL3⟩:∃ L_,L2++prev=L_:=⟨_,rfl⟩;rw [hL3]at ho;have nL3:=Qz.k (show L3.length=44 from by rw [←hL3,List.length_append];have:=nL2.out;have:=HP32.out;omega);have HL3:=Qz.k hL3;clear hL3;obtain⟨A_L3,c_L3,e_L3⟩:=Kd.afz ho;subst e_L3;replace HO:=Qz.k ho;replace HB:=Qz.k hb;clear ho hb hg hat))
 refine(aRq A_L3 c_L3 L3 0 W6 (Kd.ack HO.out).2.2 (Kd.ack HO.out).2.1 (by have:=nL3.out;omega) (by decide) (by decide)).mono ?_
 rintro e W7 ⟨v7,rfl,ho,hb⟩
 obtain⟨L4,hL4⟩:∃ L_,L3++vn ((0:Int).toNat)=L_:=⟨_,rfl⟩
 rw [hL4]at ho
 have nL4:=Qz.k (show L4.length=45 from by rw [←hL4,List.length_append,nL3.out,aHq _ (by decide)];rfl)
 have HL4:=Qz.k hL4
 obtain⟨A_L4,c_L4,e_L4⟩:=Kd.afz ho
 subst e_L4
 replace HO:=Qz.k (Kd.aiq ho HB.out.size)
 replace HB:=Qz.k (aaz HB.out hb)
 clear ho hb hL4
 (try clear hc1)
 go_wp2
 refine wp_loop_rounds 1 ?_
 rw [rounds_succ]
 have hc2:=abz HB.out HK2.out
 go_wp2_with (fail)
 refine(aRq none 0 [] 0 W7 (Kd.a7q _ _) (Nat.le_refl 0) (by decide) (by decide) (by decide)).mono ?_
 rintro e W14 ⟨v14,rfl,ho,hb⟩
 rw [List.nil_append,show((0:Int).toNat)=0 from rfl,aHq 0 (by decide)]at ho
 obtain⟨A14,c14,e14⟩:=Kd.afz ho
 subst e14
 have HS4:=Qz.k (Kd.ack ho).2.2
 replace HO:=Qz.k (Kd.ahz HO.out hb)
 replace HB:=Qz.k (aaz HB.out hb)
 clear ho hb hc2
 go_wp2_with (first
  |((with_reducible refine agk (b := .append) (xs:=#[.tmp 50,.tmp 55]) rfl ?_);at_builtin;refine Kd.ahq (Kd.int .u8) (w0:=W2) W2.heap.size rfl (.tmp 50) (.tmp 55) 27 5 (.int .u8 0) 1 rfl Tryz.underlying27 info5 rfl (by decide) (by omega) (.slice A_L4 L4.length c_L4) L4 [((0:Nat):Int)] _ _ _ (fun _=>True) (fun _=>False) rfl rfl HO.out (HS4.out) (fun _ _ h=>h) (fun _ h=>h.elim) (fun _ _=>trivial) (HB.out) (Below.size (HB.out)) (by have:=nL4.out;simp;omega) ?_;intro v_L5 W15 ho hb hg hat;obtain⟨L5,hL5⟩:∃ L_,L4 ++ [((0:Nat):Int)]=L_:=⟨_,rfl⟩;rw [hL5]at ho;have nL5:=Qz.k (show L5.length=46 from by rw [←hL5,List.length_append];have:=nL4.out;simp;omega);have HL5:=Qz.k hL5;clear hL5;obtain⟨A_L5,c_L5,e_L5⟩:=Kd.afz ho;subst e_L5;replace HO:=Qz.k ho;replace HB:=Qz.k hb;clear ho hb hg hat;have hc2:=abz HB.out HK2.out))
 clear HS4
 refine wp_loop_rounds 1 ?_
 rw [rounds_succ]
 have hc3:=abz HB.out HK3.out
 go_wp2_with (first
  |((with_reducible refine agk (b := .append) (xs:=#[.tmp 79,.tmp 81]) rfl ?_);at_builtin;refine Kd.ahq (Kd.int .u8) (w0:=W2) W2.heap.size rfl (.tmp 79) (.tmp 81) 27 5 (.int .u8 0) 1 rfl Tryz.underlying27 info5 rfl (by decide) (by omega) (.slice A_L5 L5.length c_L5) L5 root _ _ _ (fun _=>True) (fun _=>False) rfl rfl HO.out (Kd.acz HRT2.out HB.out) (fun _ _ h=>h) (fun _ h=>h.elim) (fun _ _=>trivial) (HB.out) (Below.size (HB.out)) (by have:=nL5.out;omega) ?_;intro v_LF W30 ho hb hg hat;obtain⟨LF,hLF⟩:∃ L_,L5++root=L_:=⟨_,rfl⟩;rw [hLF]at ho;have nLF:=Qz.k (show LF.length=78 from by rw [←hLF,List.length_append];have:=nL5.out;have:=HR32.out;omega);have HLF:=Qz.k hLF;clear hLF;obtain⟨A_LF,c_LF,e_LF⟩:=Kd.afz ho;subst e_LF;replace HO:=Qz.k ho;replace HB:=Qz.k hb;clear ho hb hg hat))
 go_ret2
 have hfin:LF=RES:=by
  rw [←HLF.out,←HL5.out,←HL4.out,←HL3.out,←HL2.out,←HFIN.out,HV0.out,show vn (Int.toNat 0)=[0]from HV0.out]
  rfl
 subst hfin
 exact⟨_,rfl,Kd.aiq HO.out HW2.out.size,aaz HW2.out HB.out⟩
set_option maxHeartbeats 4000000 in
theorem manifest_Encode2.calls (ver:Int)(A1:Option Addr)(c1:Nat)(prev:List Int)(A2:Option Addr)(c2:Nat)(x y:S75)(A3:Option Addr)(c3:Nat)(root:List Int)(w:World)(hv:0≤ver∧ver<18446744073709551615)(hr1:Kd.C (Kd.int .u8) w A1 32 prev)(hr2:Kd.C k75 w A2 2 [x,y])(hr3:Kd.C (Kd.int .u8) w A3 32 root)(hx:EntR x)(hy:EntR y)(hxs:x.f0.size=3)(hys:y.f0.size=3)(hne:kyS x.f0≠kyS y.f0)(hlt:Op.bytesLess y.f0.toList x.f0.toList=false) :
  Calls Tryz.prog 51 #[.agg #[.int .u64 ver,.slice A1 32 c1,.slice A2 2 c2,.slice A3 32 c3]] w fun e w'=>∃ (v:Value) (r:List Int),e=.returned (.tuple #[v,.int .i64 0])∧r.length=90∧Kd.R (Kd.int .u8) 5 w' w.heap.size (fun _=>True) v r∧Below w.heap.size w w':=by
 have HWR:=Qz.k (fun(W:World) (h:Below w.heap.size w W)=>manifest_wrong.calls ver A1 c1 A2 c2 [x,y] A3 c3 W hv (Kd.acz hr2 h) (by simp) (by intro z hz;simp at hz;rcases hz with rfl|rfl;exact hx;exact hy))
 have HDR:=Qz.k (fun(W:World) (h:Below w.heap.size w W)=>manifest_directory2.calls A2 c2 x y W (Kd.acz hr2 h) hx.1 hy.1 hne hlt)
 have HP:=Qz.k hr1
 have HRT:=Qz.k hr3
 have HP32:=Qz.k (show prev.length=32 from hr1.1)
 have HR32:=Qz.k (show root.length=32 from hr3.1)
 have HFX:=Qz.k (a2k 8 (by decide) ver)
 have nFX:=Qz.k (ank ver 8)
 have HV0:=Qz.k (vn0)
 generalize fixB 8 ver=FX at *
 obtain⟨adE,eE,hx0,hx1⟩:=b4k hr2 0 (by omega) (by omega)
 subst eE
 obtain⟨adE',eE',hy0,hy1⟩:=b4k hr2 1 (by omega) (by omega)
 injection eE' with eE'
 subst eE'
 replace hx0:w.cell? adE=some (.string x.f0):=hx0
 replace hx1:w.cell? ⟨adE.block,adE.off+1,none⟩=some (.int .i64 x.f1):=hx1
 replace hy0:w.cell? ⟨adE.block,adE.off+2,none⟩=some (.string y.f0):=hy0
 replace hy1:w.cell? ⟨adE.block,adE.off+2+1,none⟩=some (.int .i64 y.f1):=hy1
 have HX0:=Qz.k hx0
 have HX1:=Qz.k hx1
 have HY0:=Qz.k hy0
 have HY1:=Qz.k hy1
 have HKX:=Qz.k (keyS x.f0 hx.1)
 have HKY:=Qz.k (keyS y.f0 hy.1)
 have HXS:=Qz.k hxs
 have HYS:=Qz.k hys
 have HXB:=Qz.k hx.2
 have HYB:=Qz.k hy.2
 have nBX:=Qz.k (show(avz (sB x.f0)).length=4 from by rw [aKq _ (by rw [aCk];omega),aCk,hxs])
 have nBY:=Qz.k (show(avz (sB y.f0)).length=4 from by rw [aKq _ (by rw [aCk];omega),aCk,hys])
 have HBX:=Qz.k (fun(W:World) (A:Option Addr) (c:Nat) hr hc=>aIk A c (sB x.f0) W hr hc (by rw [aCk];omega))
 have HBY:=Qz.k (fun(W:World) (A:Option Addr) (c:Nat) hr hc=>aIk A c (sB y.f0) W hr hc (by rw [aCk];omega))
 generalize avz (sB x.f0)=BX at *
 generalize avz (sB y.f0)=BY at *
 clear hx0 hx1 hy0 hy1 hx hy hxs hys hne hlt
 clear hv hr1 hr2 hr3
 go_enter Tryz.func51,Tryz.ntmps51
 go_wp2_with (fail)
 have hb0:=aaq (Below.refl w.heap.size w) (.cells #[.int .u64 ver,.slice A1 32 c1,.slice (some adE) 2 c2,.slice A3 32 c3] 65)
 obtain⟨W0,hW0⟩:∃ W0,w.alloc (.cells #[.int .u64 ver,.slice A1 32 c1,.slice (some adE) 2 c2,.slice A3 32 c3] 65)=W0:=⟨_,rfl⟩
 have HC:=Qz.k (show W0.heap[w.heap.size]? = some (.cells #[.int .u64 ver,.slice A1 32 c1,.slice (some adE) 2 c2,.slice A3 32 c3] 65 (0,0))from by rw [←hW0];exact akz w _)
 rw [hW0]at hb0
 have HB0:=Qz.k hb0
 rw [hW0]
 clear hb0 hW0
 refine(HWR.out _ HB0.out).mono ?_
 rintro e W1 ⟨rfl,hb⟩
 have HC1:=Qz.k (agz HC.out hb)
 have HB1:=Qz.k (aaz HB0.out hb)
 clear hb HB0 HC
 have hc0:W1.cell? ⟨w.heap.size,0,none⟩=some (.int .u64 ver):=(aak HC1.out 0).trans rfl
 have hc1:W1.cell? ⟨w.heap.size,1,none⟩=some (.slice A1 32 c1):=(aak HC1.out 1).trans rfl
 have hc2:W1.cell? ⟨w.heap.size,2,none⟩=some (.slice (some adE) 2 c2):=(aak HC1.out 2).trans rfl
 have hc3:W1.cell? ⟨w.heap.size,3,none⟩=some (.slice A3 32 c3):=(aak HC1.out 3).trans rfl
 go_wp2_with (fail)
 refine(HDR.out _ HB1.out).mono ?_
 rintro e W2 ⟨vN,bM,D,rfl,hn,hm,hd0,hd1,hb⟩
 obtain⟨AN,cN,eN⟩:=Kd.afz hn
 replace eN:vN=.slice AN 2 cN:=eN
 subst eN
 have HN:=Qz.k (Kd.ack hn).2.2
 have HM:=Qz.k hm
 have HD0:=Qz.k hd0
 have HD1:=Qz.k hd1
 have HC2:=Qz.k (agz HC1.out hb)
 have HW2:=Qz.k (aaz HB1.out hb)
 clear hn hm hd0 hd1 hc0 hc1 hc2 hc3 hb HC1 HB1 HWR HDR
 obtain⟨adN,eN,hn0⟩:=Kd.aGz HN.out 0 (by omega) (by simp)
 subst eN
 obtain⟨adN',eN',hn1⟩:=Kd.aGz HN.out 1 (by omega) (by simp)
 injection eN' with eN'
 subst eN'
 replace hn0:W2.cell? adN=some (.string x.f0):=hn0
 replace hn1:W2.cell? ⟨adN.block,adN.off+1,none⟩=some (.string y.f0):=hn1
 have HN0:=Qz.k hn0
 have HN1:=Qz.k hn1
 clear hn0 hn1
 have HB:=Qz.k (Below.refl W2.heap.size W2)
 have HK0:=Qz.k (show W2.cell? ⟨w.heap.size,0,none⟩=some (.int .u64 ver)from(aak HC2.out 0).trans rfl)
 have HK1:=Qz.k (show W2.cell? ⟨w.heap.size,1,none⟩=some (.slice A1 32 c1)from(aak HC2.out 1).trans rfl)
 have HK2:=Qz.k (show W2.cell? ⟨w.heap.size,2,none⟩=some (.slice (some adE) 2 c2)from(aak HC2.out 2).trans rfl)
 have HK3:=Qz.k (show W2.cell? ⟨w.heap.size,3,none⟩=some (.slice A3 32 c3)from(aak HC2.out 3).trans rfl)
 have HP2:=Qz.k (Kd.acz HP.out HW2.out)
 have HRT2:=Qz.k (Kd.acz HRT.out HW2.out)
 clear HP HRT
 have hc0:=abz HB.out HK0.out
 have kc:=fun(w:World) (C:Array Value) (n c:Nat)=>Lib.run_convert_bytes_const (P:=Tryz.prog) w 27 5 C n c Tryz.underlying27 Tryz.underlying5
 have hc0a:=abz (aaq (Below.refl W2.heap.size W2) (.cells #[.int .u8 67,.int .u8 83,.int .u8 75,.int .u8 49] 5 (4,5))) HK0.out
 go_wp2_with (fail)
 clear kc hc0a
 obtain⟨g3,hg3⟩:∃ g_,W2.heap.size=g_:=⟨_,rfl⟩
 obtain⟨W3,hW3⟩:∃ W_,W2.alloc (.cells #[.int .u8 67,.int .u8 83,.int .u8 75,.int .u8 49] 5 (4,5))=W_:=⟨_,rfl⟩
 have hb3:=aaq (Below.refl W2.heap.size W2) (.cells #[.int .u8 67,.int .u8 83,.int .u8 75,.int .u8 49] 5 (4,5))
 have hk3:W3.heap[g3]? = some (.cells #[.int .u8 67,.int .u8 83,.int .u8 75,.int .u8 49] 5 (4,5)):=by rw [←hW3,←hg3];exact World.alloc_heap_new W2 _
 have HL1:=Qz.k (show Kd.C (Kd.int .u8) W3 (some ⟨g3,0,none⟩) 4 [67,83,75,49]from C_bytes (xs:=[67,83,75,49]) (by decide) (fun j x hj=>by
  have hc:W3.cell? ⟨g3,j,none⟩=#[Value.int .u8 67,.int .u8 83,.int .u8 75,.int .u8 49][j]? := by simp [World.cell?,hk3]
  rw [hc]
  match j,hj with
  | 0,h=>(simp only [List.getElem?_cons_zero,Option.some.injEq]at h;subst h;rfl)
  | 1,h=>(simp only [List.getElem?_cons_succ,List.getElem?_cons_zero,Option.some.injEq]at h;subst h;rfl)
  | 2,h=>(simp only [List.getElem?_cons_succ,List.getElem?_cons_zero,Option.some.injEq]at h;subst h;rfl)
  | 3,h=>(simp only [List.getElem?_cons_succ,List.getElem?_cons_zero,Option.some.injEq]at h;subst h;rfl)
  |j+4,h=>simp at h))
 rw [hW3]at hb3
 rw [hW3,hg3]
 replace HB:=Qz.k (aaz HB.out hb3)
 clear hb3 hk3 hW3 hg3
 refine(HFX.out _).mono ?_
 rintro e W4 ⟨v4,rfl,ho,hb⟩
 obtain⟨A4,c4,e4⟩:=Kd.afz ho
 subst e4
 have HS4:=Qz.k (Kd.ack ho).2.2
 replace HL1:=Qz.k (Kd.acz HL1.out hb)
 replace HB:=Qz.k (aaz HB.out hb)
 clear ho hb hc0
 have hc1:=abz HB.out HK1.out
 go_wp2_with (first
  |((with_reducible refine agk (b := .append) (xs:=#[.tmp 24,.tmp 27]) rfl ?_);at_builtin;refine bwq rfl (.tmp 24) (.tmp 27) 27 5 1 rfl Tryz.underlying27 info5 _ 4 [67,83,75,49] FX _ _ _ rfl rfl HL1.out (HS4.out) (by have:=nFX.out;omega) (by have:=nFX.out;omega) (by have:=nFX.out;omega) ?_;intro v_L2 W5 ho hb;obtain⟨L2,hL2⟩:∃ L_,([67,83,75,49]:List Int)++FX=L_:=⟨_,rfl⟩;rw [hL2]at ho;have nL2:=Qz.k (show L2.length=12 from by rw [←hL2,List.length_append];have:=nFX.out;simp;omega);have HL2:=Qz.k hL2;clear hL2;obtain⟨A_L2,c_L2,e_L2⟩:=Kd.afz ho;subst e_L2;have HO:=Qz.k (Kd.aiq ho HB.out.size);replace HB:=Qz.k (aaz HB.out hb);clear ho hb;(try clear hc1);have hc1:=abz HB.out HK1.out)
  |((with_reducible refine agk (b := .append) (xs:=#[.tmp 29,.tmp 31]) rfl ?_);at_builtin;refine Kd.ahq (Kd.int .u8) (w0:=W2) W2.heap.size rfl (.tmp 29) (.tmp 31) 27 5 (.int .u8 0) 1 rfl Tryz.underlying27 info5 rfl (by decide) (by omega) (.slice A_L2 L2.length c_L2) L2 prev _ _ _ (fun _=>True) (fun _=>False) rfl rfl HO.out (Kd.acz HP2.out HB.out) (fun _ _ h=>h) (fun _ h=>h.elim) (fun _ _=>trivial) (HB.out) (Below.size (HB.out)) (by have:=nL2.out;omega) ?_;intro v_L3 W6 ho hb hg hat;obtain⟨L3,hL3⟩:∃ L_,L2++prev=L_:=⟨_,rfl⟩;rw [hL3]at ho;have nL3:=Qz.k (show L3.length=44 from by rw [←hL3,List.length_append];have:=nL2.out;have:=HP32.out;omega);have HL3:=Qz.k hL3;clear hL3;obtain⟨A_L3,c_L3,e_L3⟩:=Kd.afz ho;subst e_L3;replace HO:=Qz.k ho;replace HB:=Qz.k hb;clear ho hb hg hat))
 refine(aRq A_L3 c_L3 L3 2 W6 (Kd.ack HO.out).2.2 (Kd.ack HO.out).2.1 (by have:=nL3.out;omega) (by decide) (by decide)).mono ?_
 rintro e W7 ⟨v7,rfl,ho,hb⟩
 obtain⟨L4,hL4⟩:∃ L_,L3++vn ((2:Int).toNat)=L_:=⟨_,rfl⟩
 rw [hL4]at ho
 have nL4:=Qz.k (show L4.length=45 from by rw [←hL4,List.length_append,nL3.out,aHq _ (by decide)];rfl)
 have HL4:=Qz.k hL4
 obtain⟨A_L4,c_L4,e_L4⟩:=Kd.afz ho
 subst e_L4
 replace HO:=Qz.k (Kd.aiq ho HB.out.size)
 replace HB:=Qz.k (aaz HB.out hb)
 clear ho hb hL4
 (try clear hc1)
 go_wp2
 refine wp_loop_rounds 3 ?_
 rw [rounds_succ]
 have hn0:=abz HB.out HN0.out
 go_wp2_with (first
  |((with_reducible refine ahk (N:=46) rfl ?_);refine bhk rfl (.tmp 45) 9 27 5 rfl rfl Tryz.underlying9 Tryz.underlying27 Tryz.underlying5 (by have:=HXS.out;omega) ?_;intro cc_ W8 hc hr hb;have HCC:=Qz.k hc;have HCR:=Qz.k hr;replace HO:=Qz.k (Kd.ahz HO.out hb);replace HB:=Qz.k (aaz HB.out hb);clear hc hr hb))
 refine(HBX.out W8 _ cc_ HCR.out HCC.out).mono ?_
 rintro e W9 ⟨v_,rfl,ho,hb⟩
 obtain⟨A_b,c_b,e_b⟩:=Kd.afz ho
 subst e_b
 have HS4:=Qz.k (Kd.ack ho).2.2
 replace HO:=Qz.k (Kd.ahz HO.out hb)
 replace HB:=Qz.k (aaz HB.out hb)
 clear ho hb hn0 HCC HCR
 go_wp2_with (first
  |((with_reducible refine agk (b := .append) (xs:=#[.tmp 44,.tmp 47]) rfl ?_);at_builtin;refine Kd.ahq (Kd.int .u8) (w0:=W2) W2.heap.size rfl (.tmp 44) (.tmp 47) 27 5 (.int .u8 0) 1 rfl Tryz.underlying27 info5 rfl (by decide) (by omega) (.slice A_L4 L4.length c_L4) L4 BX _ _ _ (fun _=>True) (fun _=>False) rfl rfl HO.out (HS4.out) (fun _ _ h=>h) (fun _ h=>h.elim) (fun _ _=>trivial) (HB.out) (Below.size (HB.out)) (by have:=nL4.out;have:=nBX.out;omega) ?_;intro v_L5 W10 ho hb hg hat;obtain⟨L5,hL5⟩:∃ L_,L4++BX=L_:=⟨_,rfl⟩;rw [hL5]at ho;have nL5:=Qz.k (show L5.length=49 from by rw [←hL5,List.length_append];have:=nL4.out;have:=nBX.out;omega);have HL5:=Qz.k hL5;clear hL5;obtain⟨A_L5,c_L5,e_L5⟩:=Kd.afz ho;subst e_L5;replace HO:=Qz.k ho;replace HB:=Qz.k hb;clear ho hb hg hat))
 clear HS4
 rw [rounds_succ]
 have hn1:=abz HB.out HN1.out
 go_wp2_with (first
  |((with_reducible refine ahk (N:=46) rfl ?_);refine bhk rfl (.tmp 45) 9 27 5 rfl rfl Tryz.underlying9 Tryz.underlying27 Tryz.underlying5 (by have:=HYS.out;omega) ?_;intro cc_ W11 hc hr hb;have HCC:=Qz.k hc;have HCR:=Qz.k hr;replace HO:=Qz.k (Kd.ahz HO.out hb);replace HB:=Qz.k (aaz HB.out hb);clear hc hr hb))
 refine(HBY.out W11 _ cc_ HCR.out HCC.out).mono ?_
 rintro e W12 ⟨v_,rfl,ho,hb⟩
 obtain⟨A_b,c_b,e_b⟩:=Kd.afz ho
 subst e_b
 have HS4:=Qz.k (Kd.ack ho).2.2
 replace HO:=Qz.k (Kd.ahz HO.out hb)
 replace HB:=Qz.k (aaz HB.out hb)
 clear ho hb hn1 HCC HCR
 go_wp2_with (first
  |((with_reducible refine agk (b := .append) (xs:=#[.tmp 44,.tmp 47]) rfl ?_);at_builtin;refine Kd.ahq (Kd.int .u8) (w0:=W2) W2.heap.size rfl (.tmp 44) (.tmp 47) 27 5 (.int .u8 0) 1 rfl Tryz.underlying27 info5 rfl (by decide) (by omega) (.slice A_L5 L5.length c_L5) L5 BY _ _ _ (fun _=>True) (fun _=>False) rfl rfl HO.out (HS4.out) (fun _ _ h=>h) (fun _ h=>h.elim) (fun _ _=>trivial) (HB.out) (Below.size (HB.out)) (by have:=nL5.out;have:=nBY.out;omega) ?_;intro v_L6 W13 ho hb hg hat;obtain⟨L6,hL6⟩:∃ L_,L5++BY=L_:=⟨_,rfl⟩;rw [hL6]at ho;have nL6:=Qz.k (show L6.length=53 from by rw [←hL6,List.length_append];have:=nL5.out;have:=nBY.out;omega);have HL6:=Qz.k hL6;clear hL6;obtain⟨A_L6,c_L6,e_L6⟩:=Kd.afz ho;subst e_L6;replace HO:=Qz.k ho;replace HB:=Qz.k hb;clear ho hb hg hat))
 clear HS4
 rw [rounds_succ]
 have hc2:=abz HB.out HK2.out
 go_wp2_with (fail)
 refine(aRq none 0 [] 2 W13 (Kd.a7q _ _) (Nat.le_refl 0) (by decide) (by decide) (by decide)).mono ?_
 rintro e W14 ⟨v14,rfl,ho,hb⟩
 rw [List.nil_append,show((2:Int).toNat)=2 from rfl,aHq 2 (by decide)]at ho
 obtain⟨A14,c14,e14⟩:=Kd.afz ho
 subst e14
 have HS4:=Qz.k (Kd.ack ho).2.2
 replace HO:=Qz.k (Kd.ahz HO.out hb)
 replace HB:=Qz.k (aaz HB.out hb)
 clear ho hb hc2
 go_wp2_with (first
  |((with_reducible refine agk (b := .append) (xs:=#[.tmp 50,.tmp 55]) rfl ?_);at_builtin;refine Kd.ahq (Kd.int .u8) (w0:=W2) W2.heap.size rfl (.tmp 50) (.tmp 55) 27 5 (.int .u8 0) 1 rfl Tryz.underlying27 info5 rfl (by decide) (by omega) (.slice A_L6 L6.length c_L6) L6 [((2:Nat):Int)] _ _ _ (fun _=>True) (fun _=>False) rfl rfl HO.out (HS4.out) (fun _ _ h=>h) (fun _ h=>h.elim) (fun _ _=>trivial) (HB.out) (Below.size (HB.out)) (by have:=nL6.out;simp;omega) ?_;intro v_L7 W15 ho hb hg hat;obtain⟨L7,hL7⟩:∃ L_,L6 ++ [((2:Nat):Int)]=L_:=⟨_,rfl⟩;rw [hL7]at ho;have nL7:=Qz.k (show L7.length=54 from by rw [←hL7,List.length_append];have:=nL6.out;simp;omega);have HL7:=Qz.k hL7;clear hL7;obtain⟨A_L7,c_L7,e_L7⟩:=Kd.afz ho;subst e_L7;replace HO:=Qz.k ho;replace HB:=Qz.k hb;clear ho hb hg hat;have hc2:=abz HB.out HK2.out))
 clear HS4
 refine wp_loop_rounds 3 ?_
 rw [rounds_succ]
 have he0:=abz (Below.trans HW2.out (HB.out.mono HW2.out.size)) HX0.out
 have he1:=abz (Below.trans HW2.out (HB.out.mono HW2.out.size)) HX1.out
 go_upto_region 17 with(fail)
 obtain⟨g_,hg_⟩:∃ g_,W15.heap.size=g_:=⟨_,rfl⟩
 obtain⟨W16,hW_⟩:∃ W_,W15.alloc (.cells #[.string x.f0,.int .i64 x.f1] 75)=W_:=⟨_,rfl⟩
 have hb_:=aaq (Below.refl W15.heap.size W15) (.cells #[.string x.f0,.int .i64 x.f1] 75)
 have HE:=Qz.k (show W16.heap[g_]? = some (.cells #[.string x.f0,.int .i64 x.f1] 75 (0,0))from by rw [←hW_,←hg_];exact akz W15 _)
 rw [hW_]at hb_
 rw [hW_,hg_]
 replace HO:=Qz.k (Kd.ahz HO.out hb_)
 replace HB:=Qz.k (aaz HB.out hb_)
 clear hb_ hW_ hg_ he0 he1
 have hg0:W16.cell? ⟨g_,0,none⟩=some (.string x.f0):=(aak HE.out 0).trans rfl
 have hlk:=lookS (aVk HM.out HB.out) HKX.out HD0.out
 go_wp2_with (fail)
 refine(aRq none 0 [] 0 W16 (Kd.a7q _ _) (Nat.le_refl 0) (by decide) (by decide) (by decide)).mono ?_
 rintro e W17 ⟨v_,rfl,ho,hb⟩
 rw [List.nil_append,show((0:Int).toNat)=0 from rfl,aHq 0 (by decide)]at ho
 obtain⟨A_b,c_b,e_b⟩:=Kd.afz ho
 subst e_b
 have HS4:=Qz.k (Kd.ack ho).2.2
 replace HO:=Qz.k (Kd.ahz HO.out hb)
 replace HB:=Qz.k (aaz HB.out hb)
 replace HE:=Qz.k (agz HE.out hb)
 clear ho hb hg0 hlk
 have hg1:W17.cell? ⟨g_,1,none⟩=some (.int .i64 x.f1):=(aak HE.out 1).trans rfl
 have HW8:=Qz.k (show IntKind.u8.wrap x.f1=x.f1 from by rw [IntKind.wrap_u8];have:=HXB.out;omega)
 go_wp2_with (first
  |((with_reducible refine agk (b := .append) (xs:=#[.tmp 64,.tmp 70]) rfl ?_);at_builtin;refine Kd.ahq (Kd.int .u8) (w0:=W2) W2.heap.size rfl (.tmp 64) (.tmp 70) 27 5 (.int .u8 0) 1 rfl Tryz.underlying27 info5 rfl (by decide) (by omega) (.slice A_L7 L7.length c_L7) L7 [((0:Nat):Int)] _ _ _ (fun _=>True) (fun _=>False) rfl rfl HO.out (HS4.out) (fun _ _ h=>h) (fun _ h=>h.elim) (fun _ _=>trivial) (HB.out) (Below.size (HB.out)) (by have:=nL7.out;simp;omega) ?_;intro v_L8 W18 ho hb hg hat;obtain⟨L8,hL8⟩:∃ L_,L7 ++ [((0:Nat):Int)]=L_:=⟨_,rfl⟩;rw [hL8]at ho;have nL8:=Qz.k (show L8.length=55 from by rw [←hL8,List.length_append];have:=nL7.out;simp;omega);have HL8:=Qz.k hL8;clear hL8;obtain⟨A_L8,c_L8,e_L8⟩:=Kd.afz ho;subst e_L8;replace HE:=Qz.k (ark HE.out hg (Kd.R_ne HO.out HE.out (by decide)));replace HO:=Qz.k ho;replace HB:=Qz.k hb;clear ho hb hg hat;(try clear hg1);have hg1:W18.cell? ⟨g_,1,none⟩=some (.int .i64 x.f1):=(aak HE.out 1).trans rfl)
  |((with_reducible refine agk (b := .append) (xs:=#[.tmp 72,.tmp 76]) rfl ?_);at_builtin;refine Kd.ahq (Kd.int .u8) (w0:=W2) W2.heap.size rfl (.tmp 72) (.tmp 76) 27 5 (.int .u8 0) 1 rfl Tryz.underlying27 info5 rfl (by decide) (by omega) (.slice A_L8 L8.length c_L8) L8 [x.f1%256] _ _ _ (fun _=>True) (fun _=>False) rfl rfl (Kd.ahz HO.out (aaq (Below.refl _ _) _)) (byte_one ((aak (akz W18 _) 0).trans rfl)) (fun _ _ h=>h) (fun _ h=>h.elim) (fun _ _=>trivial) (aaz HB.out (aaq (Below.refl _ _) _)) (Below.size (aaz HB.out (aaq (Below.refl _ _) _))) (by have:=nL8.out;simp;omega) ?_;intro v_L9 W19 ho hb hg hat;obtain⟨L9,hL9⟩:∃ L_,L8 ++ [x.f1%256]=L_:=⟨_,rfl⟩;rw [hL9]at ho;have nL9:=Qz.k (show L9.length=56 from by rw [←hL9,List.length_append];have:=nL8.out;simp;omega);have HL9:=Qz.k hL9;clear hL9;obtain⟨A_L9,c_L9,e_L9⟩:=Kd.afz ho;subst e_L9;replace HO:=Qz.k ho;replace HB:=Qz.k hb;clear ho hb hg hat;(try clear hg1)))
 clear HS4 HE
 skip
 rw [rounds_succ]
 have he0:=abz (Below.trans HW2.out (HB.out.mono HW2.out.size)) HY0.out
 have he1:=abz (Below.trans HW2.out (HB.out.mono HW2.out.size)) HY1.out
 go_upto_region 17 with(fail)
 obtain⟨g_,hg_⟩:∃ g_,W19.heap.size=g_:=⟨_,rfl⟩
 obtain⟨W20,hW_⟩:∃ W_,W19.alloc (.cells #[.string y.f0,.int .i64 y.f1] 75)=W_:=⟨_,rfl⟩
 have hb_:=aaq (Below.refl W19.heap.size W19) (.cells #[.string y.f0,.int .i64 y.f1] 75)
 have HE:=Qz.k (show W20.heap[g_]? = some (.cells #[.string y.f0,.int .i64 y.f1] 75 (0,0))from by rw [←hW_,←hg_];exact akz W19 _)
 rw [hW_]at hb_
 rw [hW_,hg_]
 replace HO:=Qz.k (Kd.ahz HO.out hb_)
 replace HB:=Qz.k (aaz HB.out hb_)
 clear hb_ hW_ hg_ he0 he1
 have hg0:W20.cell? ⟨g_,0,none⟩=some (.string y.f0):=(aak HE.out 0).trans rfl
 have hlk:=lookS (aVk HM.out HB.out) HKY.out HD1.out
 go_wp2_with (fail)
 refine(aRq none 0 [] 1 W20 (Kd.a7q _ _) (Nat.le_refl 0) (by decide) (by decide) (by decide)).mono ?_
 rintro e W21 ⟨v_,rfl,ho,hb⟩
 rw [List.nil_append,show((1:Int).toNat)=1 from rfl,aHq 1 (by decide)]at ho
 obtain⟨A_b,c_b,e_b⟩:=Kd.afz ho
 subst e_b
 have HS4:=Qz.k (Kd.ack ho).2.2
 replace HO:=Qz.k (Kd.ahz HO.out hb)
 replace HB:=Qz.k (aaz HB.out hb)
 replace HE:=Qz.k (agz HE.out hb)
 clear ho hb hg0 hlk
 have hg1:W21.cell? ⟨g_,1,none⟩=some (.int .i64 y.f1):=(aak HE.out 1).trans rfl
 have HW8:=Qz.k (show IntKind.u8.wrap y.f1=y.f1 from by rw [IntKind.wrap_u8];have:=HYB.out;omega)
 go_wp2_with (first
  |((with_reducible refine agk (b := .append) (xs:=#[.tmp 64,.tmp 70]) rfl ?_);at_builtin;refine Kd.ahq (Kd.int .u8) (w0:=W2) W2.heap.size rfl (.tmp 64) (.tmp 70) 27 5 (.int .u8 0) 1 rfl Tryz.underlying27 info5 rfl (by decide) (by omega) (.slice A_L9 L9.length c_L9) L9 [((1:Nat):Int)] _ _ _ (fun _=>True) (fun _=>False) rfl rfl HO.out (HS4.out) (fun _ _ h=>h) (fun _ h=>h.elim) (fun _ _=>trivial) (HB.out) (Below.size (HB.out)) (by have:=nL9.out;simp;omega) ?_;intro v_L10 W22 ho hb hg hat;obtain⟨L10,hL10⟩:∃ L_,L9 ++ [((1:Nat):Int)]=L_:=⟨_,rfl⟩;rw [hL10]at ho;have nL10:=Qz.k (show L10.length=57 from by rw [←hL10,List.length_append];have:=nL9.out;simp;omega);have HL10:=Qz.k hL10;clear hL10;obtain⟨A_L10,c_L10,e_L10⟩:=Kd.afz ho;subst e_L10;replace HE:=Qz.k (ark HE.out hg (Kd.R_ne HO.out HE.out (by decide)));replace HO:=Qz.k ho;replace HB:=Qz.k hb;clear ho hb hg hat;(try clear hg1);have hg1:W22.cell? ⟨g_,1,none⟩=some (.int .i64 y.f1):=(aak HE.out 1).trans rfl)
  |((with_reducible refine agk (b := .append) (xs:=#[.tmp 72,.tmp 76]) rfl ?_);at_builtin;refine Kd.ahq (Kd.int .u8) (w0:=W2) W2.heap.size rfl (.tmp 72) (.tmp 76) 27 5 (.int .u8 0) 1 rfl Tryz.underlying27 info5 rfl (by decide) (by omega) (.slice A_L10 L10.length c_L10) L10 [y.f1%256] _ _ _ (fun _=>True) (fun _=>False) rfl rfl (Kd.ahz HO.out (aaq (Below.refl _ _) _)) (byte_one ((aak (akz W22 _) 0).trans rfl)) (fun _ _ h=>h) (fun _ h=>h.elim) (fun _ _=>trivial) (aaz HB.out (aaq (Below.refl _ _) _)) (Below.size (aaz HB.out (aaq (Below.refl _ _) _))) (by have:=nL10.out;simp;omega) ?_;intro v_L11 W23 ho hb hg hat;obtain⟨L11,hL11⟩:∃ L_,L10 ++ [y.f1%256]=L_:=⟨_,rfl⟩;rw [hL11]at ho;have nL11:=Qz.k (show L11.length=58 from by rw [←hL11,List.length_append];have:=nL10.out;simp;omega);have HL11:=Qz.k hL11;clear hL11;obtain⟨A_L11,c_L11,e_L11⟩:=Kd.afz ho;subst e_L11;replace HO:=Qz.k ho;replace HB:=Qz.k hb;clear ho hb hg hat;(try clear hg1)))
 clear HS4 HE
 rw [rounds_succ]
 have hc3:=abz HB.out HK3.out
 go_wp2_with (first
  |((with_reducible refine agk (b := .append) (xs:=#[.tmp 79,.tmp 81]) rfl ?_);at_builtin;refine Kd.ahq (Kd.int .u8) (w0:=W2) W2.heap.size rfl (.tmp 79) (.tmp 81) 27 5 (.int .u8 0) 1 rfl Tryz.underlying27 info5 rfl (by decide) (by omega) (.slice A_L11 L11.length c_L11) L11 root _ _ _ (fun _=>True) (fun _=>False) rfl rfl HO.out (Kd.acz HRT2.out HB.out) (fun _ _ h=>h) (fun _ h=>h.elim) (fun _ _=>trivial) (HB.out) (Below.size (HB.out)) (by have:=nL11.out;omega) ?_;intro v_LF W30 ho hb hg hat;obtain⟨LF,hLF⟩:∃ L_,L11++root=L_:=⟨_,rfl⟩;rw [hLF]at ho;have nLF:=Qz.k (show LF.length=90 from by rw [←hLF,List.length_append];have:=nL11.out;have:=HR32.out;omega);have HLF:=Qz.k hLF;clear hLF;obtain⟨A_LF,c_LF,e_LF⟩:=Kd.afz ho;subst e_LF;replace HO:=Qz.k ho;replace HB:=Qz.k hb;clear ho hb hg hat))
 go_ret2
 exact⟨_,LF,rfl,nLF.out,Kd.aiq HO.out HW2.out.size,aaz HW2.out HB.out⟩
end Go.Proofs.YthggdomocichdaaGreatDoor.P
namespace Go.Proofs.YthggdomocichdaaGreatDoor.P
open Go.RowKit Go.Proofs.YthggdomocichdaaGreatDoor.Kit Go.Proofs.YthggdomocichdaaGreatDoor.Var Go.Proofs.YthggdomocichdaaGreatDoorW.PrintWords Go.Proofs.YthggdomocichdaaGreatDoorW.PrintLast Go.Proofs.YthggdomocichdaaGreatDoorW.PrintMore
set_option maxHeartbeats 2000000 in
theorem bytes_Clone.calls (ad:Addr)(c0:Nat)(l:List Int)(w:World)(hr0:Kd.C (Kd.int .u8) w (some ad) l.length l)(hl:l.length<1099511627776) :
  Calls Tryz.prog 52 #[.slice (some ad) l.length c0] w fun e w'=>∃ v0_:Value,e=.returned v0_∧Kd.R (Kd.int .u8) 5 w' w.heap.size (fun _=>True) v0_ l∧Below w.heap.size w w':=by
 have qnil:∀ (w:World) (a:Option Addr) (n c n' c':Nat),(binOp .eql 27 (.slice a n c) (.slice none n' c')).run Tryz.prog w=.ok (.bool a.isNone) w:=fun w a n c n' c'=>Lib.run_eql_slice_nil w _ _ a n c n' c' Tryz.underlying27
 have HR:=Qz.k hr0
 have HL:=Qz.k hl
 have HB:=Qz.k (Below.refl w.heap.size w)
 clear hr0 hl
 go_enter Tryz.func52,Tryz.ntmps52
 go_wp2_with (first
  |((with_reducible refine ahk (N:=5) rfl ?_);refine Kd.bwz (Kd.int .u8) (w0:=w) w.heap.size 5 ?hg (N:=5) ?hd (xs:=([]:List Int)) (inner:=[]) (ok:=fun _=>True) (okp:=fun _=>True) ?hr ?hp (fun _ hk=>hk) trivial HB.out HB.out.size (by simp) ?_;(case hd=>rfl);(case hg=>rfl);(case hr=>first|(go_simp;done)|(go_simp;rfl));(case hp=>exact(Reps.none _ _));intro v_L1 W1 ho hb hg_ hnew_;obtain⟨L1,hL1⟩:∃ L_,([]:List Int)=L_:=⟨_,rfl⟩;rw [hL1]at ho;have nL1:=Qz.k (show L1.length=0 from by rw [←hL1];rfl);have HL1:=Qz.k hL1;clear hL1;obtain⟨A_L1,c_L1,e_L1⟩:=Kd.afz ho;subst e_L1;have HO:=Qz.k ho;replace HB:=Qz.k hb;clear ho hb hg_ hnew_)
  |((with_reducible refine agk (b := .append) (xs:=#[.tmp 5,.tmp 6]) rfl ?_);at_builtin;refine Kd.ahq (Kd.int .u8) (w0:=w) w.heap.size rfl (.tmp 5) (.tmp 6) 27 5 (.int .u8 0) 1 rfl Tryz.underlying27 info5 rfl (by decide) (by omega) (.slice A_L1 L1.length c_L1) L1 l _ _ _ (fun _=>True) (fun _=>False) rfl rfl HO.out (Kd.acz HR.out HB.out) (fun _ _ h=>h) (fun _ h=>h.elim) (fun _ _=>trivial) (HB.out) (Below.size (HB.out)) (by have:=nL1.out;have:=HL.out;omega) ?_;intro v_L2 W2 ho hb hg hat;obtain⟨L2,hL2⟩:∃ L_,L1++l=L_:=⟨_,rfl⟩;rw [hL2]at ho;have nL2:=Qz.k (show L2.length=l.length from by rw [←hL2,List.length_append];have:=nL1.out;omega);have HL2:=Qz.k hL2;clear hL2;obtain⟨A_L2,c_L2,e_L2⟩:=Kd.afz ho;subst e_L2;replace HO:=Qz.k ho;replace HB:=Qz.k hb;clear ho hb hg hat))
 go_ret
 have e2:L2=l:=by rw [←HL2.out,←HL1.out];rfl
 subst e2
 exact⟨_,rfl,HO.out,HB.out⟩
set_option maxHeartbeats 4000000 in
theorem manifest_Sign.calls (Pr:List Int→Prop)(A0:Option Addr)(c0:Nat)(key:List Int)(m:Array Value)(w:World)(hr0:Kd.C (Kd.int .u8) w A0 key.length key)(hc0:key.length≤c0)(hk:key.length=32)(hm:∃ a b c d,m=#[a,b,c,d])
  (hpr:∀ r,Pr r→0<r.length∧r.length<1048576)
  (hE:∀ W:World,Below w.heap.size w W→Calls Tryz.prog 51 #[.agg m] W fun e w'=>∃ (v:Value) (r:List Int),e=.returned (.tuple #[v,.int .i64 0])∧Pr r∧Kd.R (Kd.int .u8) 5 w' W.heap.size (fun _=>True) v r∧Below W.heap.size W w') :
  Calls Tryz.prog 24 #[.slice A0 key.length c0,.agg m] w fun e w'=>∃ (v:Value) (r:List Int),e=.returned (.tuple #[v,.int .i64 0])∧Pr r∧Kd.R (Kd.int .u8) 5 w' w.heap.size (fun _=>True) v (r++aDz (derived key 4 aEz) [r])∧Below w.heap.size w w':=by
 obtain⟨a,b,c,d,rfl⟩:=hm
 have HMK:=Qz.k (fun(W:World) (h:Below w.heap.size w W)=>keys_Manifest.calls A0 c0 key W (Kd.acz hr0 h) hc0 hk)
 have HEN:=Qz.k hE
 have HPR:=Qz.k hpr
 have nD:=Qz.k (aXq key 4 aEz)
 generalize derived key 4 aEz=D at *
 clear hr0 hc0 hk hE hpr
 go_enter Tryz.func24,Tryz.ntmps24
 go_wp2_with (fail)
 have hb0:=aaq (Below.refl w.heap.size w) (.cells #[a,b,c,d] 65)
 obtain⟨W0,hW0⟩:∃ W0,w.alloc (.cells #[a,b,c,d] 65)=W0:=⟨_,rfl⟩
 have HC:=Qz.k (show W0.heap[w.heap.size]? = some (.cells #[a,b,c,d] 65 (0,0))from by rw [←hW0];exact akz w _)
 rw [hW0]at hb0
 have HB:=Qz.k hb0
 rw [hW0]
 clear hb0 hW0
 refine(HMK.out _ HB.out).mono ?_
 rintro e W1 ⟨v1,rfl,ho,hb⟩
 obtain⟨A1,c1,e1⟩:=Kd.afz ho
 subst e1
 have HD:=Qz.k (Kd.ack ho).2
 replace HC:=Qz.k (agz HC.out hb)
 replace HB:=Qz.k (aaz HB.out hb)
 clear ho hb HMK
 have hc0:W1.cell? ⟨w.heap.size,0,none⟩=some a:=(aak HC.out 0).trans rfl
 have hc1:W1.cell? ⟨w.heap.size,1,none⟩=some b:=(aak HC.out 1).trans rfl
 have hc2:W1.cell? ⟨w.heap.size,2,none⟩=some c:=(aak HC.out 2).trans rfl
 have hc3:W1.cell? ⟨w.heap.size,3,none⟩=some d:=(aak HC.out 3).trans rfl
 go_wp2_with (fail)
 refine(HEN.out _ HB.out).mono ?_
 rintro e W2 ⟨v2,r,rfl,hp,ho,hb⟩
 have nR:=Qz.k (HPR.out r hp)
 have HP:=Qz.k hp
 obtain⟨ad2,c2,e2⟩:=Kd.a0k ho nR.out.1
 subst e2
 have HR:=Qz.k (Kd.ack ho).2
 replace HD:=Qz.k (⟨HD.out.1,Kd.acz HD.out.2 hb⟩:_∧_)
 replace HB:=Qz.k (aaz HB.out hb)
 clear ho hb hp HEN HPR HC hc0 hc1 hc2 hc3
 go_wp2_with (fail)
 refine(bytes_Clone.calls ad2 c2 r _ HR.out.2 (by have:=nR.out;omega)).mono ?_
 rintro e W3 ⟨v3,rfl,ho,hb⟩
 obtain⟨A_r,c_r,e_r⟩:=Kd.afz ho
 subst e_r
 have HO:=Qz.k ho
 replace HD:=Qz.k (⟨HD.out.1,Kd.acz HD.out.2 hb⟩:_∧_)
 replace HR:=Qz.k (⟨HR.out.1,Kd.acz HR.out.2 hb⟩:_∧_)
 have HW2:=Qz.k HB.out
 replace HB:=Qz.k hb
 clear ho hb
 go_wp2_with (fail)
 refine(hmac_MAC.calls A1 c1 D (some ad2) c2 r W3 HD.out.2 HD.out.1 nD.out HR.out.2 HR.out.1 (by have:=nR.out;omega)).mono ?_
 rintro e W4 ⟨v4,rfl,ho,hb⟩
 obtain⟨T,hT⟩:∃ T,aDz D [r]=T:=⟨_,rfl⟩
 have nT:=Qz.k (show T.length=32 from by rw [←hT];exact aGq _ _)
 rw [hT]at ho
 have HTE:=Qz.k hT
 obtain⟨A4,c4,e4⟩:=Kd.afz ho
 subst e4
 have HT4:=Qz.k (Kd.ack ho).2.2
 replace HO:=Qz.k (Kd.ahz HO.out hb)
 replace HB:=Qz.k (aaz HB.out hb)
 clear ho hb hT HD HR
 go_wp2_with (first
  |((with_reducible refine agk (b := .append) (xs:=#[.tmp 26,.tmp 29]) rfl ?_);at_builtin;refine Kd.ahq (Kd.int .u8) (w0:=W2) W2.heap.size rfl (.tmp 26) (.tmp 29) 27 5 (.int .u8 0) 1 rfl Tryz.underlying27 info5 rfl (by decide) (by omega) (.slice A_r r.length c_r) r T _ _ _ (fun _=>True) (fun _=>False) rfl rfl HO.out (HT4.out) (fun _ _ h=>h) (fun _ h=>h.elim) (fun _ _=>trivial) (HB.out) (Below.size (HB.out)) (by have:=nR.out;have:=nT.out;omega) ?_;intro v_LF W5 ho hb hg hat;obtain⟨LF,hLF⟩:∃ L_,r++T=L_:=⟨_,rfl⟩;rw [hLF]at ho;have nLF:=Qz.k (show LF.length=r.length+32 from by rw [←hLF,List.length_append];have:=nT.out;omega);have HLF:=Qz.k hLF;clear hLF;obtain⟨A_LF,c_LF,e_LF⟩:=Kd.afz ho;subst e_LF;replace HO:=Qz.k ho;replace HB:=Qz.k hb;clear ho hb hg hat))
 go_ret2
 have e2:r++aDz D [r]=LF:=by rw [HTE.out];exact HLF.out
 refine⟨_,r,rfl,HP.out,?_,aaz HW2.out HB.out⟩
 rw [e2]
 exact Kd.aiq HO.out HW2.out.size
theorem must0 (w:World):Calls Tryz.prog 108 #[.int .i64 0] w fun e w'=>e=.returned (.tuple #[])∧w=w':=by
 go_enter Tryz.func108,Tryz.ntmps108
 go_wp2
 go_end0
 exact⟨rfl,rfl⟩
theorem unless1 (k:Int)(w:World):Calls Tryz.prog 102 #[.bool true,.int .i64 k] w fun e w'=>e=.returned (.tuple #[])∧w=w':=by
 go_enter Tryz.func102,Tryz.ntmps102
 go_wp2
 go_end0
 exact⟨rfl,rfl⟩
theorem gotB (A:Option Addr)(n c:Nat)(w:World):Calls Tryz.prog 160 #[.slice A n c,.int .i64 0] w fun e w'=>e=.returned (.slice A n c)∧w=w':=by
 go_enter Tryz.func160,Tryz.ntmps160
 go_wp2_with (go_at_call 108;refine(must0 _).mono ?_;rintro e w' ⟨rfl,rfl⟩)
 go_ret
 exact⟨rfl,rfl⟩
theorem gotN (x:Int)(w:World):Calls Tryz.prog 104 #[.int .u64 x,.int .i64 0] w fun e w'=>e=.returned (.int .u64 x)∧w=w':=by
 go_enter Tryz.func104,Tryz.ntmps104
 go_wp2_with (go_at_call 108;refine(must0 _).mono ?_;rintro e w' ⟨rfl,rfl⟩)
 go_ret
 exact⟨rfl,rfl⟩
theorem cBytes_at (a b:List Int):aAk (a++b) (a.length:Int)=(a,b,0):=by
 rw [aAk,if_neg (by omega),if_neg (by rw [List.length_append];omega),Int.toNat_natCast,List.take_left,List.drop_left]
theorem taken_at (g:Nat)(a b:List Int)(n:Int)(hn:n=(a.length:Int))(w0 w:World)(hI:apz w0 w g (a++b))(hB:Below w0.heap.size w0 w)(hg:a6z (a++b)) :
  Calls Tryz.prog 103 #[.pointer (some ⟨g,0,none⟩),.int .i64 n] w fun e w'=>∃ v:Value,e=.returned v∧Kd.R (Kd.int .u8) 5 w' w.heap.size (fun _=>True) v a∧apz w0 w' g b∧Below w0.heap.size w0 w'∧alk w w' g none:=by
 have HC:=Qz.k (cursor_Cursor_Bytes.calls g (a++b) n a 0 b w0 w hI hB (by rw [cursor_Cursor_Bytes.f,if_pos hg,hn,cBytes_at]))
 clear hI hB hg hn
 go_enter Tryz.func103,Tryz.ntmps103
 go_wp2_with (fail)
 refine HC.out.mono ?_
 rintro e w2 ⟨v,rfl,ho,hi,hb,hk⟩
 obtain⟨A,c,ev⟩:=Kd.afz ho
 subst ev
 have HO:=Qz.k ho
 have HI:=Qz.k hi
 have HB:=Qz.k hb
 have HK:=Qz.k hk
 clear ho hi hb hk HC
 go_wp2_with (go_at_call 160;refine(gotB _ _ _ _).mono ?_;rintro e w' ⟨rfl,rfl⟩)
 go_ret
 exact⟨_,rfl,HO.out,HI.out,HB.out,HK.out⟩
theorem b3z (g:Nat)(b:List Int)(w0 w:World)(hI:apz w0 w g ([0]++b))(hB:Below w0.heap.size w0 w)(hg:a6z ([0]++b)) :
  Calls Tryz.prog 161 #[.pointer (some ⟨g,0,none⟩)] w fun e w'=>e=.returned (.int .i64 0)∧apz w0 w' g b∧Below w0.heap.size w0 w'∧alk w w' g none:=by
 have HC:=Qz.k (cursor_Cursor_Varint.calls g ([0]++b) 0 0 b w0 w hI hB (by rw [cursor_Cursor_Varint.f,if_pos hg,←vn0,cV_vn 0 b (by decide)];rfl))
 clear hI hB hg
 go_enter Tryz.func161,Tryz.ntmps161
 go_wp2_with (fail)
 refine HC.out.mono ?_
 rintro e w2 ⟨rfl,hi,hb,hk⟩
 have HI:=Qz.k hi
 have HB:=Qz.k hb
 have HK:=Qz.k hk
 clear hi hb hk HC
 go_wp2_with (first
  |(go_at_call 104;refine(gotN _ _).mono ?_;rintro e w' ⟨rfl,rfl⟩)
  |(go_at_call 102;refine(unless1 _ _).mono ?_;rintro e w' ⟨rfl,rfl⟩))
 go_ret
 exact⟨rfl,HI.out,HB.out,HK.out⟩
theorem tenants_at (g:Nat)(b:List Int)(w0 w:World)(hI:apz w0 w g ([0]++b))(hB:Below w0.heap.size w0 w)(hg:a6z ([0]++b)) :
  Calls Tryz.prog 106 #[.pointer (some ⟨g,0,none⟩)] w fun e w'=>e=.returned (.slice none 0 0)∧apz w0 w' g b∧Below w0.heap.size w0 w'∧alk w w' g none:=by
 have HC:=Qz.k (b3z g b w0 w hI hB hg)
 clear hI hB hg
 go_enter Tryz.func106,Tryz.ntmps106
 go_wp2_with (fail)
 refine HC.out.mono ?_
 rintro e w2 ⟨rfl,hi,hb,hk⟩
 have HI:=Qz.k hi
 have HB:=Qz.k hb
 have HK:=Qz.k hk
 clear hi hb hk HC
 go_wp2
 refine wp_loop_rounds 1 ?_
 rw [rounds_succ]
 go_wp2
 go_ret
 exact⟨rfl,HI.out,HB.out,HK.out⟩
theorem entries_at (g:Nat)(b:List Int)(w0 w:World)(hI:apz w0 w g ([0]++b))(hB:Below w0.heap.size w0 w)(hg:a6z ([0]++b)) :
  Calls Tryz.prog 107 #[.pointer (some ⟨g,0,none⟩),.slice none 0 0] w fun e w'=>e=.returned (.slice none 0 0)∧apz w0 w' g b∧Below w0.heap.size w0 w'∧alk w w' g none:=by
 have HC:=Qz.k (b3z g b w0 w hI hB hg)
 clear hI hB hg
 go_enter Tryz.func107,Tryz.ntmps107
 go_wp2_with (fail)
 refine HC.out.mono ?_
 rintro e w2 ⟨rfl,hi,hb,hk⟩
 have HI:=Qz.k hi
 have HB:=Qz.k hb
 have HK:=Qz.k hk
 clear hi hb hk HC
 go_wp2
 refine wp_loop_rounds 1 ?_
 rw [rounds_succ]
 go_wp2
 go_ret
 exact⟨rfl,HI.out,HB.out,HK.out⟩
theorem dec_idle (p q:Value)(w:World):CallsD Tryz.prog 101 #[p,q] .returning w fun e u' w'=>e=.returned (.tuple #[])∧u'=.returning∧w'=w:=by
 refine callsD_of_wpS Tryz.func101 rfl fun c₀ cs hu=>?_
 apply wpS_seq
 apply wpS_region
 simp [wpOpsS,go_sem,recoverD,hu,Tryz.ntmps101,Exit.thenS]
 refine wpS_of_wp ?_
 go_wp2
 cases c₀
 simp_all [bodyPostS,results,Tryz.results101]
theorem bXq {P:Program}{fn:Func}{p q:Tmp}{ty ty2:TypeId}(h:fn.results=#[.cell p ty,.cell q ty2])(tmps:Array Value)(w:World)(g g2:Nat)(tt t2:TypeId)(cs:Array Value)(v:Value)(d:TypeDesc)
  (hp:tmps.getD p undef=.pointer (some ⟨g,0,none⟩)) (hg:w.heap[g]? = some (.cells cs tt (0,0))) (hq:tmps.getD q undef=.pointer (some ⟨g2,0,none⟩)) (hg2:w.heap[g2]? = some (.cells #[v] t2 (0,0)))
  (hu:P.underlying ty=some d) (hd:(match d with | .struct _ | .array _ _=>true | _=>false)=true) (hi:(P.info? ty).map (·.size)=some cs.size) (hl:(loadVar ty2 ⟨g2,0,none⟩).run P w=.ok v w) :
  (results fn tmps).run P w=.ok (.tuple #[.agg cs,v]) w:=by
 have hp':tmps[p]?.getD undef=.pointer (some ⟨g,0,none⟩):=by simpa using hp
 have hq':tmps[q]?.getD undef=.pointer (some ⟨g2,0,none⟩):=by simpa using hq
 simp [results,h,hp',hq',asAddr,run_loadVar_row w g tt ty cs (0,0) d hg hu hd hi,hl]
theorem grown_set (W:World)(b i:Nat)(v:Value):W.grownBy (W.setCell ⟨b,i,none⟩ v) (some b):=⟨rfl,rfl,rfl,by simp,fun k _ hk=>Below.heap_setCell W ⟨b,i,none⟩ v k (fun e=>hk (by rw [e]))⟩
section
variable {w0 W:World}{g:Nat}{f0:List Int}
theorem cur_set (h:apz w0 W g f0){b t:Nat}{cs:Array Value}(hb:W.heap[b]? = some (.cells cs t (0,0)))(ht:t≠132∧t≠5)(i:Nat)(v:Value):apz w0 (W.setCell ⟨b,i,none⟩ v) g f0:=by
 refine h.grown (grown_set W b i v) ?_
 obtain⟨u,hg,hbb,hq⟩:=h
 refine⟨fun e=>?_,fun B u' hq' k hk e=>?_⟩
 ·injection e with e
  subst e
  rw [hg]at hb
  injection hb with hb
  injection hb with _ hb _
  exact ht.1 hb.symm
 ·injection e with e
  subst e
  obtain⟨c,hc⟩:=Kd.Q_typed hq' _ hk
  rw [hc]at hb
  injection hb with hb
  injection hb with _ hb _
  exact ht.2 hb.symm
end
theorem aFk {W W1:World}{b g:Nat}{o:Obj}(h:W.heap[b]? = some o)(hk:alk W W1 g none)(hne:b≠g):W1.heap[b]? = some o:=(hk.2 b (Array.getElem?_eq_some_iff.1 h).1 hne (by simp)).trans h
theorem aWz (prev root:List Int):man0 1 prev root=[67,83,75,49]++([0,0,0,0,0,0,0,1]++(prev++([0]++([0]++(root ++ []))))):=by
 have e:fixB 8 1=[0,0,0,0,0,0,0,1]:=by decide
 rw [man0,e,vn0]
 simp only [List.append_assoc,List.append_nil]
set_option maxHeartbeats 8000000 in
theorem manifest_Decode0.calls (A0:Option Addr)(c0:Nat)(prev root:List Int)(w:World)(hp:prev.length=32)(hr:root.length=32)(hpb:By prev)(hrb:By root)(hr0:Kd.C (Kd.int .u8) w A0 78 (man0 1 prev root))(hc0:78≤c0) :
  Calls Tryz.prog 57 #[.slice A0 78 c0] w fun e w'=>∃ (A1 A2:Option Addr) (c1 c2:Nat),e=.returned (.tuple #[.agg #[.int .u64 1,.slice A1 32 c1,.slice none 0 0,.slice A2 32 c2],.int .i64 0])∧32≤c1∧32≤c2∧Kd.C (Kd.int .u8) w' A1 32 prev∧Kd.C (Kd.int .u8) w' A2 32 root∧Below w.heap.size w w':=by
 have hE:=aWz prev root
 obtain⟨R5,h5⟩:∃ R,root ++ []=R:=⟨_,rfl⟩
 obtain⟨R4,h4⟩:∃ R,[0]++R5=R:=⟨_,rfl⟩
 obtain⟨R3,h3⟩:∃ R,[0]++R4=R:=⟨_,rfl⟩
 obtain⟨R2,h2⟩:∃ R,prev++R3=R:=⟨_,rfl⟩
 obtain⟨R1,h1⟩:∃ R,[0,0,0,0,0,0,0,1]++R2=R:=⟨_,rfl⟩
 obtain⟨R0,h0⟩:∃ R,[67,83,75,49]++R1=R:=⟨_,rfl⟩
 rw [h5,h4,h3,h2,h1,h0]at hE
 rw [hE]at hr0
 have n5:R5.length=32:=by rw [←h5];simp [hr]
 have n4:R4.length=33:=by rw [←h4];simp [n5]
 have n3:R3.length=34:=by rw [←h3];simp [n4]
 have n2:R2.length=66:=by rw [←h2];simp [n3,hp]
 have n1:R1.length=74:=by rw [←h1];simp [n2]
 have n0:R0.length=78:=by rw [←h0];simp [n1]
 have b5:∀ x∈R5,0≤x∧x<256:=by rw [←h5];intro x hx;exact hrb x (by simpa using hx)
 have b4:∀ x∈R4,0≤x∧x<256:=by rw [←h4];intro x hx;rcases List.mem_append.1 hx with h|h;(simp at h;omega);exact b5 x h
 have b3:∀ x∈R3,0≤x∧x<256:=by rw [←h3];intro x hx;rcases List.mem_append.1 hx with h|h;(simp at h;omega);exact b4 x h
 have b2:∀ x∈R2,0≤x∧x<256:=by rw [←h2];intro x hx;rcases List.mem_append.1 hx with h|h;exact hpb x h;exact b3 x h
 have b1:∀ x∈R1,0≤x∧x<256:=by rw [←h1];intro x hx;rcases List.mem_append.1 hx with h|h;(simp at h;omega);exact b2 x h
 have b0:∀ x∈R0,0≤x∧x<256:=by rw [←h0];intro x hx;rcases List.mem_append.1 hx with h|h;(simp at h;omega);exact b1 x h
 have HG0:=Qz.k (show a6z R0 from⟨b0,by omega⟩)
 have HG1:=Qz.k (show a6z R1 from⟨b1,by omega⟩)
 have HG2:=Qz.k (show a6z R2 from⟨b2,by omega⟩)
 have HG3:=Qz.k (show a6z R3 from⟨b3,by omega⟩)
 have HG4:=Qz.k (show a6z R4 from⟨b4,by omega⟩)
 have HG5:=Qz.k (show a6z R5 from⟨b5,by omega⟩)
 have HN0:=Qz.k n0
 have H0:=Qz.k h0
 have H1:=Qz.k h1
 have H2:=Qz.k h2
 have H3:=Qz.k h3
 have H4:=Qz.k h4
 have H5:=Qz.k h5
 have HFX:=Qz.k (show a8q R1 8=(1,R2,0)from by
  have e:=cBytes_at [0,0,0,0,0,0,0,1] R2
  rw [h1]at e
  have e2:aAk R1 8=([0,0,0,0,0,0,0,1],R2,0):=e
  rw [a8q,if_neg (by decide),e2]
  rfl)
 have HP:=Qz.k hp
 have HRL:=Qz.k hr
 have HR:=Qz.k hr0
 have HC:=Qz.k hc0
 have hmf:∀ (fn:Fn) (first cap:Array Value) (w:World),(Instr.makeFunc fn first cap).run Tryz.prog w=.ok (.func fn first cap) w:=fun _ _ _ _=>rfl
 have hse:∀ (w:World),(binOp .eql 9 (.string ⟨#[67,83,75,49]⟩) (.string ⟨#[67,83,75,49]⟩)).run Tryz.prog w=.ok (.bool true) w:=fun w=>by kernel_rfl
 clear h0 h1 h2 h3 h4 h5 n0 n1 n2 n3 n4 n5 b0 b1 b2 b3 b4 b5 hE hp hr hpb hrb hr0 hc0
 go_enter_defers Tryz.func57,Tryz.ntmps57
 go_wp2_with (fail)
 have hb0:=aaq (aaq (Below.refl w.heap.size w) (.cells #[.int .u64 0,.slice none 0 0,.slice none 0 0,.slice none 0 0] 65)) (.cells #[.int .i64 0] 30)
 obtain⟨g3,hg3⟩:∃ g_,w.heap.size+1=g_:=⟨_,rfl⟩
 have HN3:=Qz.k (show w.heap.size≤g3∧w.heap.size≠g3 from by omega)
 obtain⟨W2,hW2⟩:∃ W_,(w.alloc (.cells #[.int .u64 0,.slice none 0 0,.slice none 0 0,.slice none 0 0] 65)).alloc (.cells #[.int .i64 0] 30)=W_:=⟨_,rfl⟩
 have HQ2:=Qz.k (show W2.heap[w.heap.size]? = some (.cells #[.int .u64 0,.slice none 0 0,.slice none 0 0,.slice none 0 0] 65 (0,0))from by rw [←hW2];exact agz (akz w _) (aaq (Below.refl _ _) _))
 have HQ3:=Qz.k (show W2.heap[g3]? = some (.cells #[.int .i64 0] 30 (0,0))from by rw [←hW2,←hg3,←World.size_alloc w (.cells #[.int .u64 0,.slice none 0 0,.slice none 0 0,.slice none 0 0] 65)];exact akz (w.alloc (.cells #[.int .u64 0,.slice none 0 0,.slice none 0 0,.slice none 0 0] 65)) _)
 rw [hW2]at hb0
 rw [hW2,hg3]
 have HB:=Qz.k hb0
 clear hb0 hW2 hg3
 have hnew:=cursor_New.calls A0 c0 R0 R0 w W2 HB.out (by rw [HN0.out];exact Kd.acz HR.out HB.out) (by rw [HN0.out];exact HC.out) (by rw [cursor_New.f,if_pos HG0.out])
 rw [HN0.out]at hnew
 refine hnew.mono ?_
 rintro e W3 ⟨gc,rfl,hi,hb,hbb⟩
 have HI:=Qz.k hi
 replace HB:=Qz.k hb
 have HNC:=Qz.k (show w.heap.size≠gc∧g3≠gc from⟨fun e=>by
   obtain⟨u,hg,_,_⟩:=hi
   rw [←e,agz HQ2.out hbb]at hg
   injection hg with hg
   injection hg with _ hg _
   exact absurd hg (by decide),fun e=>by
   obtain⟨u,hg,_,_⟩:=hi
   rw [←e,agz HQ3.out hbb]at hg
   injection hg with hg
   injection hg with _ hg _
   exact absurd hg (by decide)⟩)
 replace HQ2:=Qz.k (agz HQ2.out hbb)
 replace HQ3:=Qz.k (agz HQ3.out hbb)
 clear hi hb hbb hnew
 go_wp2_with (fail)
 refine(taken_at gc [67,83,75,49] R1 4 rfl w W3 (by rw [H0.out];exact HI.out) HB.out (by rw [H0.out];exact HG0.out)).mono ?_
 rintro e W4 ⟨v4,rfl,ho,hi,hb,hk⟩
 replace HI:=Qz.k hi
 replace HB:=Qz.k hb
 replace HQ2:=Qz.k (aFk HQ2.out hk HNC.out.1)
 replace HQ3:=Qz.k (aFk HQ3.out hk HNC.out.2)
 have HV4:=Qz.k (Kd.aLk (HI.out.apart ho (by decide)) HQ2.out (by decide))
 clear hi hb hk ho
 obtain⟨A4,c4,e4⟩:=Kd.afz HV4.out
 replace e4:v4=.slice A4 4 c4:=e4
 subst e4
 have hcv:(convert 27 9 (.slice A4 4 c4)).run Tryz.prog W4=.ok (.string ⟨#[67,83,75,49]⟩) W4:=Kd.bFz (c:=c4) Tryz.underlying27 Tryz.underlying5 Tryz.underlying9 (Kd.ack HV4.out).2.2
 go_wp2_with (go_at_call 102;refine(unless1 _ _).mono ?_;rintro e w' ⟨rfl,rfl⟩)
 clear hcv hse HV4
 refine(cursor_Cursor_Fixed.calls gc R1 8 1 0 R2 w W4 HI.out HB.out (by rw [cursor_Cursor_Fixed.f,if_pos HG1.out,HFX.out])).mono ?_
 rintro e W5 ⟨rfl,hi,hb,hk⟩
 replace HI:=Qz.k hi
 replace HB:=Qz.k hb
 replace HQ2:=Qz.k (aFk HQ2.out hk HNC.out.1)
 replace HQ3:=Qz.k (aFk HQ3.out hk HNC.out.2)
 clear hi hb hk
 have f2:W5.cell? ⟨w.heap.size,0,none⟩=some (.int .u64 0):=(aak HQ2.out 0).trans rfl
 have z2:=afk HQ2.out 0
 go_wp2_with (first
  |(go_at_call 104;refine(gotN _ _).mono ?_;rintro e w' ⟨rfl,rfl⟩)
  |(go_at_call 102;refine(unless1 _ _).mono ?_;rintro e w' ⟨rfl,rfl⟩))
 clear f2 z2
 obtain⟨W6,hW6⟩:∃ W_,W5.setCell ⟨w.heap.size,0,none⟩ (.int .u64 1)=W_:=⟨_,rfl⟩
 rw [hW6]
 replace HI:=Qz.k (show apz w W6 gc R2 from by rw [←hW6];exact cur_set HI.out HQ2.out (by decide) 0 _)
 replace HB:=Qz.k (show Below w.heap.size w W6 from by rw [←hW6];exact adq HB.out (Nat.le_refl _))
 replace HQ3:=Qz.k (show W6.heap[g3]? = some (.cells #[.int .i64 0] 30 (0,0))from by rw [←hW6];exact(Below.heap_setCell _ _ _ _ HN3.out.2.symm).trans HQ3.out)
 replace HQ2:=Qz.k (show W6.heap[w.heap.size]? = some (.cells #[.int .u64 1,.slice none 0 0,.slice none 0 0,.slice none 0 0] 65 (0,0))from by rw [←hW6];exact anq HQ2.out 0 _ rfl)
 clear hW6
 refine(taken_at gc prev R3 32 (by rw [HP.out];rfl) w W6 (by rw [H2.out];exact HI.out) HB.out (by rw [H2.out];exact HG2.out)).mono ?_
 rintro e W7 ⟨v7,rfl,ho,hi,hb,hk⟩
 replace HI:=Qz.k hi
 replace HB:=Qz.k hb
 replace HQ2:=Qz.k (aFk HQ2.out hk HNC.out.1)
 replace HQ3:=Qz.k (aFk HQ3.out hk HNC.out.2)
 have HV7:=Qz.k (Kd.aLk (HI.out.apart ho (by decide)) HQ2.out (by decide))
 clear hi hb hk ho
 obtain⟨A7,c7,e7⟩:=Kd.afz HV7.out
 rw [HP.out]at e7
 subst e7
 have f2:W7.cell? ⟨w.heap.size,1,none⟩=some (.slice none 0 0):=(aak HQ2.out 1).trans rfl
 have z2:=afk HQ2.out 1
 go_wp2_with (fail)
 clear f2 z2
 obtain⟨W8,hW8⟩:∃ W_,W7.setCell ⟨w.heap.size,1,none⟩ (.slice A7 32 c7)=W_:=⟨_,rfl⟩
 rw [hW8]
 replace HI:=Qz.k (show apz w W8 gc R3 from by rw [←hW8];exact cur_set HI.out HQ2.out (by decide) 1 _)
 replace HB:=Qz.k (show Below w.heap.size w W8 from by rw [←hW8];exact adq HB.out (Nat.le_refl _))
 replace HV7:=Qz.k (show Kd.R (Kd.int .u8) 5 W8 _ (fun k=>(True∧k≠gc)∧k≠w.heap.size) (.slice A7 32 c7) prev from by rw [←hW8];exact Kd.aQq HV7.out (p:=⟨w.heap.size,1,none⟩) (fun k h=>h.2) _)
 replace HQ3:=Qz.k (show W8.heap[g3]? = some (.cells #[.int .i64 0] 30 (0,0))from by rw [←hW8];exact(Below.heap_setCell _ _ _ _ HN3.out.2.symm).trans HQ3.out)
 replace HQ2:=Qz.k (show W8.heap[w.heap.size]? = some (.cells #[.int .u64 1,.slice A7 32 c7,.slice none 0 0,.slice none 0 0] 65 (0,0))from by rw [←hW8];exact anq HQ2.out 1 _ rfl)
 clear hW8
 refine(tenants_at gc R4 w W8 (by rw [H3.out];exact HI.out) HB.out (by rw [H3.out];exact HG3.out)).mono ?_
 rintro e W9 ⟨rfl,hi,hb,hk⟩
 replace HI:=Qz.k hi
 replace HB:=Qz.k hb
 replace HQ2:=Qz.k (aFk HQ2.out hk HNC.out.1)
 replace HQ3:=Qz.k (aFk HQ3.out hk HNC.out.2)
 replace HV7:=Qz.k (Kd.b5k HV7.out hk (fun k h=>h.1.2))
 clear hi hb hk
 go_wp2_with (fail)
 refine(entries_at gc R5 w W9 (by rw [H4.out];exact HI.out) HB.out (by rw [H4.out];exact HG4.out)).mono ?_
 rintro e W10 ⟨rfl,hi,hb,hk⟩
 replace HI:=Qz.k hi
 replace HB:=Qz.k hb
 replace HQ2:=Qz.k (aFk HQ2.out hk HNC.out.1)
 replace HQ3:=Qz.k (aFk HQ3.out hk HNC.out.2)
 replace HV7:=Qz.k (Kd.b5k HV7.out hk (fun k h=>h.1.2))
 clear hi hb hk
 have f2:W10.cell? ⟨w.heap.size,2,none⟩=some (.slice none 0 0):=(aak HQ2.out 2).trans rfl
 have z2:=afk HQ2.out 2
 go_wp2_with (fail)
 clear f2 z2
 obtain⟨W11,hW11⟩:∃ W_,W10.setCell ⟨w.heap.size,2,none⟩ (.slice none 0 0)=W_:=⟨_,rfl⟩
 rw [hW11]
 replace HI:=Qz.k (show apz w W11 gc R5 from by rw [←hW11];exact cur_set HI.out HQ2.out (by decide) 2 _)
 replace HB:=Qz.k (show Below w.heap.size w W11 from by rw [←hW11];exact adq HB.out (Nat.le_refl _))
 replace HV7:=Qz.k (show Kd.R (Kd.int .u8) 5 W11 _ (fun k=>(True∧k≠gc)∧k≠w.heap.size) (.slice A7 32 c7) prev from by rw [←hW11];exact Kd.aQq HV7.out (p:=⟨w.heap.size,2,none⟩) (fun k h=>h.2) _)
 replace HQ3:=Qz.k (show W11.heap[g3]? = some (.cells #[.int .i64 0] 30 (0,0))from by rw [←hW11];exact(Below.heap_setCell _ _ _ _ HN3.out.2.symm).trans HQ3.out)
 replace HQ2:=Qz.k (show W11.heap[w.heap.size]? = some (.cells #[.int .u64 1,.slice A7 32 c7,.slice none 0 0,.slice none 0 0] 65 (0,0))from by rw [←hW11];exact anq HQ2.out 2 _ rfl)
 clear hW11
 refine(taken_at gc root [] 32 (by rw [HRL.out];rfl) w W11 (by rw [H5.out];exact HI.out) HB.out (by rw [H5.out];exact HG5.out)).mono ?_
 rintro e W12 ⟨v12,rfl,ho,hi,hb,hk⟩
 replace HI:=Qz.k hi
 replace HB:=Qz.k hb
 replace HQ2:=Qz.k (aFk HQ2.out hk HNC.out.1)
 replace HQ3:=Qz.k (aFk HQ3.out hk HNC.out.2)
 replace HV7:=Qz.k (Kd.b5k HV7.out hk (fun k h=>h.1.2))
 have HV12:=Qz.k (Kd.aLk (HI.out.apart ho (by decide)) HQ2.out (by decide))
 clear hi hb hk ho
 obtain⟨A12,c12,e12⟩:=Kd.afz HV12.out
 rw [HRL.out]at e12
 subst e12
 have f2:W12.cell? ⟨w.heap.size,3,none⟩=some (.slice none 0 0):=(aak HQ2.out 3).trans rfl
 have z2:=afk HQ2.out 3
 go_wp2_with (fail)
 clear f2 z2
 obtain⟨W13,hW13⟩:∃ W_,W12.setCell ⟨w.heap.size,3,none⟩ (.slice A12 32 c12)=W_:=⟨_,rfl⟩
 rw [hW13]
 replace HI:=Qz.k (show apz w W13 gc []from by rw [←hW13];exact cur_set HI.out HQ2.out (by decide) 3 _)
 replace HB:=Qz.k (show Below w.heap.size w W13 from by rw [←hW13];exact adq HB.out (Nat.le_refl _))
 replace HV7:=Qz.k (show Kd.R (Kd.int .u8) 5 W13 _ (fun k=>(True∧k≠gc)∧k≠w.heap.size) (.slice A7 32 c7) prev from by rw [←hW13];exact Kd.aQq HV7.out (p:=⟨w.heap.size,3,none⟩) (fun k h=>h.2) _)
 replace HV12:=Qz.k (show Kd.R (Kd.int .u8) 5 W13 _ (fun k=>(True∧k≠gc)∧k≠w.heap.size) (.slice A12 32 c12) root from by rw [←hW13];exact Kd.aQq HV12.out (p:=⟨w.heap.size,3,none⟩) (fun k h=>h.2) _)
 replace HQ3:=Qz.k (show W13.heap[g3]? = some (.cells #[.int .i64 0] 30 (0,0))from by rw [←hW13];exact(Below.heap_setCell _ _ _ _ HN3.out.2.symm).trans HQ3.out)
 replace HQ2:=Qz.k (show W13.heap[w.heap.size]? = some (.cells #[.int .u64 1,.slice A7 32 c7,.slice none 0 0,.slice A12 32 c12] 65 (0,0))from by rw [←hW13];exact anq HQ2.out 3 _ rfl)
 clear hW13
 refine(cursor_Cursor_End.calls gc [] 0 [] w W13 HI.out HB.out (by rfl)).mono ?_
 rintro e W14 ⟨rfl,hi,hb,hk⟩
 replace HB:=Qz.k hb
 replace HQ2:=Qz.k (aFk HQ2.out hk HNC.out.1)
 replace HQ3:=Qz.k (aFk HQ3.out hk HNC.out.2)
 replace HV7:=Qz.k (Kd.b5k HV7.out hk (fun k h=>h.1.2))
 replace HV12:=Qz.k (Kd.b5k HV12.out hk (fun k h=>h.1.2))
 clear hi hb hk HI
 have f2:W14.cell? ⟨w.heap.size,2,none⟩=some (.slice none 0 0):=(aak HQ2.out 2).trans rfl
 go_wp2_with (go_at_call 108;refine(must0 _).mono ?_;rintro e w' ⟨rfl,rfl⟩)
 refine(manifest_directory0.calls none 0 _).mono ?_
 rintro e W15 ⟨bM,rfl,hb⟩
 replace HB:=Qz.k (aaz HB.out hb)
 replace HQ2:=Qz.k (agz HQ2.out hb)
 replace HQ3:=Qz.k (agz HQ3.out hb)
 replace HV7:=Qz.k (Kd.ahz HV7.out hb)
 replace HV12:=Qz.k (Kd.ahz HV12.out hb)
 clear hb f2
 have q0:W15.cell? ⟨w.heap.size,0,none⟩=some (.int .u64 1):=(aak HQ2.out 0).trans rfl
 have q1:W15.cell? ⟨w.heap.size,1,none⟩=some (.slice A7 32 c7):=(aak HQ2.out 1).trans rfl
 have q2:W15.cell? ⟨w.heap.size,2,none⟩=some (.slice none 0 0):=(aak HQ2.out 2).trans rfl
 have q3:W15.cell? ⟨w.heap.size,3,none⟩=some (.slice A12 32 c12):=(aak HQ2.out 3).trans rfl
 have q4:W15.cell? ⟨g3,0,none⟩=some (.int .i64 0):=(aak HQ3.out 0).trans rfl
 have y0:=afk HQ2.out 0
 have y1:=afk HQ2.out 1
 have y2:=afk HQ2.out 2
 have y3:=afk HQ2.out 3
 have y4:=afk HQ3.out 0
 have hn1:¬ w.heap.size=g3:=HN3.out.2
 have hn2:¬ g3=w.heap.size:=fun e=>HN3.out.2 e.symm
 go_wp2_with (go_at_call 102;refine(unless1 _ _).mono ?_;rintro e w' ⟨rfl,rfl⟩)
 obtain⟨V0,hV0⟩:∃ W_,W15.setCell ⟨w.heap.size,0,none⟩ (.int .u64 1)=W_:=⟨_,rfl⟩
 rw [hV0]
 replace HB:=Qz.k (show Below w.heap.size w V0 from by rw [←hV0];exact adq HB.out (Nat.le_refl _))
 replace HV7:=Qz.k (show Kd.R (Kd.int .u8) 5 V0 _ (fun k=>(True∧k≠gc)∧k≠w.heap.size) (.slice A7 32 c7) prev from by rw [←hV0];exact Kd.aQq HV7.out (p:=⟨w.heap.size,0,none⟩) (fun k h=>h.2) _)
 replace HV12:=Qz.k (show Kd.R (Kd.int .u8) 5 V0 _ (fun k=>(True∧k≠gc)∧k≠w.heap.size) (.slice A12 32 c12) root from by rw [←hV0];exact Kd.aQq HV12.out (p:=⟨w.heap.size,0,none⟩) (fun k h=>h.2) _)
 replace HQ3:=Qz.k (show V0.heap[g3]? = some (.cells #[.int .i64 0] 30 (0,0))from by rw [←hV0];exact(Below.heap_setCell _ _ _ _ HN3.out.2.symm).trans HQ3.out)
 replace HQ2:=Qz.k (show V0.heap[w.heap.size]? = some (.cells #[.int .u64 1,.slice A7 32 c7,.slice none 0 0,.slice A12 32 c12] 65 (0,0))from by rw [←hV0];exact anq HQ2.out 0 _ rfl)
 clear hV0
 obtain⟨V1,hV1⟩:∃ W_,V0.setCell ⟨w.heap.size,1,none⟩ (.slice A7 32 c7)=W_:=⟨_,rfl⟩
 rw [hV1]
 replace HB:=Qz.k (show Below w.heap.size w V1 from by rw [←hV1];exact adq HB.out (Nat.le_refl _))
 replace HV7:=Qz.k (show Kd.R (Kd.int .u8) 5 V1 _ (fun k=>(True∧k≠gc)∧k≠w.heap.size) (.slice A7 32 c7) prev from by rw [←hV1];exact Kd.aQq HV7.out (p:=⟨w.heap.size,1,none⟩) (fun k h=>h.2) _)
 replace HV12:=Qz.k (show Kd.R (Kd.int .u8) 5 V1 _ (fun k=>(True∧k≠gc)∧k≠w.heap.size) (.slice A12 32 c12) root from by rw [←hV1];exact Kd.aQq HV12.out (p:=⟨w.heap.size,1,none⟩) (fun k h=>h.2) _)
 replace HQ3:=Qz.k (show V1.heap[g3]? = some (.cells #[.int .i64 0] 30 (0,0))from by rw [←hV1];exact(Below.heap_setCell _ _ _ _ HN3.out.2.symm).trans HQ3.out)
 replace HQ2:=Qz.k (show V1.heap[w.heap.size]? = some (.cells #[.int .u64 1,.slice A7 32 c7,.slice none 0 0,.slice A12 32 c12] 65 (0,0))from by rw [←hV1];exact anq HQ2.out 1 _ rfl)
 clear hV1
 obtain⟨V2,hV2⟩:∃ W_,V1.setCell ⟨w.heap.size,2,none⟩ (.slice none 0 0)=W_:=⟨_,rfl⟩
 rw [hV2]
 replace HB:=Qz.k (show Below w.heap.size w V2 from by rw [←hV2];exact adq HB.out (Nat.le_refl _))
 replace HV7:=Qz.k (show Kd.R (Kd.int .u8) 5 V2 _ (fun k=>(True∧k≠gc)∧k≠w.heap.size) (.slice A7 32 c7) prev from by rw [←hV2];exact Kd.aQq HV7.out (p:=⟨w.heap.size,2,none⟩) (fun k h=>h.2) _)
 replace HV12:=Qz.k (show Kd.R (Kd.int .u8) 5 V2 _ (fun k=>(True∧k≠gc)∧k≠w.heap.size) (.slice A12 32 c12) root from by rw [←hV2];exact Kd.aQq HV12.out (p:=⟨w.heap.size,2,none⟩) (fun k h=>h.2) _)
 replace HQ3:=Qz.k (show V2.heap[g3]? = some (.cells #[.int .i64 0] 30 (0,0))from by rw [←hV2];exact(Below.heap_setCell _ _ _ _ HN3.out.2.symm).trans HQ3.out)
 replace HQ2:=Qz.k (show V2.heap[w.heap.size]? = some (.cells #[.int .u64 1,.slice A7 32 c7,.slice none 0 0,.slice A12 32 c12] 65 (0,0))from by rw [←hV2];exact anq HQ2.out 2 _ rfl)
 clear hV2
 obtain⟨V3,hV3⟩:∃ W_,V2.setCell ⟨w.heap.size,3,none⟩ (.slice A12 32 c12)=W_:=⟨_,rfl⟩
 rw [hV3]
 replace HB:=Qz.k (show Below w.heap.size w V3 from by rw [←hV3];exact adq HB.out (Nat.le_refl _))
 replace HV7:=Qz.k (show Kd.R (Kd.int .u8) 5 V3 _ (fun k=>(True∧k≠gc)∧k≠w.heap.size) (.slice A7 32 c7) prev from by rw [←hV3];exact Kd.aQq HV7.out (p:=⟨w.heap.size,3,none⟩) (fun k h=>h.2) _)
 replace HV12:=Qz.k (show Kd.R (Kd.int .u8) 5 V3 _ (fun k=>(True∧k≠gc)∧k≠w.heap.size) (.slice A12 32 c12) root from by rw [←hV3];exact Kd.aQq HV12.out (p:=⟨w.heap.size,3,none⟩) (fun k h=>h.2) _)
 replace HQ3:=Qz.k (show V3.heap[g3]? = some (.cells #[.int .i64 0] 30 (0,0))from by rw [←hV3];exact(Below.heap_setCell _ _ _ _ HN3.out.2.symm).trans HQ3.out)
 replace HQ2:=Qz.k (show V3.heap[w.heap.size]? = some (.cells #[.int .u64 1,.slice A7 32 c7,.slice none 0 0,.slice A12 32 c12] 65 (0,0))from by rw [←hV3];exact anq HQ2.out 3 _ rfl)
 clear hV3
 obtain⟨V4,hV4⟩:∃ W_,V3.setCell ⟨g3,0,none⟩ (.int .i64 0)=W_:=⟨_,rfl⟩
 rw [hV4]
 replace HB:=Qz.k (show Below w.heap.size w V4 from by rw [←hV4];exact adq HB.out HN3.out.1)
 replace HV7:=Qz.k (show Kd.R (Kd.int .u8) 5 V4 _ (fun k=>((True∧k≠gc)∧k≠w.heap.size)∧k≠g3) (.slice A7 32 c7) prev from by rw [←hV4];exact Kd.aQq (Kd.aLk HV7.out HQ3.out (by decide)) (p:=⟨g3,0,none⟩) (fun k h=>h.2) _)
 replace HV12:=Qz.k (show Kd.R (Kd.int .u8) 5 V4 _ (fun k=>((True∧k≠gc)∧k≠w.heap.size)∧k≠g3) (.slice A12 32 c12) root from by rw [←hV4];exact Kd.aQq (Kd.aLk HV12.out HQ3.out (by decide)) (p:=⟨g3,0,none⟩) (fun k h=>h.2) _)
 replace HQ2:=Qz.k (show V4.heap[w.heap.size]? = some (.cells #[.int .u64 1,.slice A7 32 c7,.slice none 0 0,.slice A12 32 c12] 65 (0,0))from by rw [←hV4];exact(Below.heap_setCell _ _ _ _ HN3.out.2).trans HQ2.out)
 replace HQ3:=Qz.k (show V4.heap[g3]? = some (.cells #[.int .i64 0] 30 (0,0))from by rw [←hV4];exact anq HQ3.out 0 _ rfl)
 clear hV4
 refine leaves_cons (f:=101) (args:=#[.pointer (some ⟨w.heap.size,0,none⟩),.pointer (some ⟨g3,0,none⟩)]) (by simp) (by simp [go_sem]) ?_
 refine(dec_idle _ _ _).mono ?_
 rintro e u' w'' ⟨rfl,rfl,rfl⟩
 refine⟨_,bXq rfl _ _ w.heap.size g3 65 30 #[.int .u64 1,.slice A7 32 c7,.slice none 0 0,.slice A12 32 c12] (.int .i64 0) _ rfl HQ2.out rfl HQ3.out Tryz.underlying65 rfl (by kernel_rfl) ?_,?_⟩
 ·have hc:World.cell? _ ⟨g3,0,none⟩=some (.int .i64 0):=(aak HQ3.out 0).trans rfl
  simp [go_sem,hc,Tryz.underlying30]
 ·exact⟨A7,A12,c7,c12,rfl,(Kd.ack HV7.out).2.1,(Kd.ack HV12.out).2.1,HP.out ▸ (Kd.ack HV7.out).2.2,HRL.out ▸ (Kd.ack HV12.out).2.2,HB.out⟩
end Go.Proofs.YthggdomocichdaaGreatDoor.P
