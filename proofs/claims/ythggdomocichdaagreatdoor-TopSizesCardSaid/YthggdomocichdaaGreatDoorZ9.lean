/- Put together: Px2, Var, Cur, CurM, CurF, CurK, CurV. -/
import Derived.Test.YthggdomocichdaaGreatDoorZ10
set_option maxRecDepth 100000
set_option linter.unusedVariables false
set_option linter.unusedSimpArgs false
namespace Go.Proofs.YthggdomocichdaaGreatDoor.P
open Go.RowKit Go.Proofs.YthggdomocichdaaGreatDoorW.PrintWords Go.Proofs.YthggdomocichdaaGreatDoorW.PrintLast Go.Proofs.YthggdomocichdaaGreatDoorW.PrintMore
attribute [local go_sem] awq awz aCq aCz azk azq aFz aEk
mutual
def varint_Read.l0 : Nat→Int→List Int→Int→Int→Option (Int×Int×Int)
 | 0,_,_,_,_=>none
 |k+1,x5,x12,x13,x14=>if x14<x13 then(if 0≤x14 then(if x14<(x12.length:Int)then(if x14=9 then(varint_Read.j1 k x5 x14 (rd x12 x14) x12 x13 x14 (decide ((rd x12 x14) > 1)))else(varint_Read.j1 k x5 x14 (rd x12 x14) x12 x13 x14 false))else(none))else(none))else(some (0,0,2))
def varint_Read.j1 : Nat→Int→Int→Int→List Int→Int→Int→Bool→Option (Int×Int×Int)
 | 0,_,_,_,_,_,_,_=>none
 |k+1,x5,x6,x7,x12,x13,x14,x24=>if x24=true then(some (0,0,3))else(if 0≤(wrap64 (7*x6))then(if x7≥128 then(varint_Read.l0 k (Go.bits .or .u64 x5 (shl .u64 (IntKind.u64.wrap (Go.bits .andNot .u8 x7 128)) (wrap64 (7*x6)))) x12 x13 (wrap64 (x14+1)))else(if x7=0 then(if x6 > 0 then(some (0,0,3))else(some (Go.bits .or .u64 x5 (shl .u64 (IntKind.u64.wrap (Go.bits .andNot .u8 x7 128)) (wrap64 (7*x6))),wrap64 (x6+1),0)))else(some (Go.bits .or .u64 x5 (shl .u64 (IntKind.u64.wrap (Go.bits .andNot .u8 x7 128)) (wrap64 (7*x6))),wrap64 (x6+1),0))))else(none))
end
def varint_Read.f (k:Nat)(l0:List Int):Option (Int×Int×Int):=if 0≤(mn (l0.length:Int) 10)then(if(mn (l0.length:Int) 10)≤(l0.length:Int)then(varint_Read.l0 k 0 (l0.take ((mn (l0.length:Int) 10):Int).toNat) ((l0.take ((mn (l0.length:Int) 10):Int).toNat).length:Int) 0)else(none))else(none)
theorem varint_Read.atz : ∀ k,(∀ y0 y1 y2 y3,LeO (varint_Read.l0 k y0 y1 y2 y3) (varint_Read.l0 (k+1) y0 y1 y2 y3))∧(∀ y0 y1 y2 y3 y4 y5 y6,LeO (varint_Read.j1 k y0 y1 y2 y3 y4 y5 y6) (varint_Read.j1 (k+1) y0 y1 y2 y3 y4 y5 y6))
 | 0=>⟨fun _ _ _ _ r h=>by simp [varint_Read.l0]at h,fun _ _ _ _ _ _ _ r h=>by simp [varint_Read.j1]at h⟩
 |k+1=>by
  obtain⟨ih0,ih1⟩:=varint_Read.atz k
  refine⟨?_,?_⟩
  ·intro y0 y1 y2 y3
   unfold varint_Read.l0
   repeat' first
   |(with_reducible exact ih0 _ _ _ _)
   |(with_reducible exact ih1 _ _ _ _ _ _ _)
   |(with_reducible exact LeO.refl _)
   |(with_reducible exact LeO.none _)
   |(with_reducible refine LeO.ite ?_ ?_)
   |(with_reducible refine LeO.bind ?_ (fun _=>?_))
   |exact ih0 _ _ _ _
   |exact ih1 _ _ _ _ _ _ _
   |exact LeO.none _
   |refine LeO.ite ?_ ?_
   |refine LeO.bind ?_ (fun _=>?_)
  ·intro y0 y1 y2 y3 y4 y5 y6
   unfold varint_Read.j1
   repeat' first
   |(with_reducible exact ih0 _ _ _ _)
   |(with_reducible exact ih1 _ _ _ _ _ _ _)
   |(with_reducible exact LeO.refl _)
   |(with_reducible exact LeO.none _)
   |(with_reducible refine LeO.ite ?_ ?_)
   |(with_reducible refine LeO.bind ?_ (fun _=>?_))
   |exact ih0 _ _ _ _
   |exact ih1 _ _ _ _ _ _ _
   |exact LeO.none _
   |refine LeO.ite ?_ ?_
   |refine LeO.bind ?_ (fun _=>?_)
theorem varint_Read.mono : ∀ a0 k,LeO (varint_Read.f k a0) (varint_Read.f (k+1) a0):=by
 intro a0 k
 obtain⟨ih0,ih1⟩:=varint_Read.atz k
 unfold varint_Read.f
 repeat' first
   |(with_reducible exact ih0 _ _ _ _)
   |(with_reducible exact ih1 _ _ _ _ _ _ _)
   |(with_reducible exact LeO.refl _)
   |(with_reducible exact LeO.none _)
   |(with_reducible refine LeO.ite ?_ ?_)
   |(with_reducible refine LeO.bind ?_ (fun _=>?_))
   |exact ih0 _ _ _ _
   |exact ih1 _ _ _ _ _ _ _
   |exact LeO.none _
   |refine LeO.ite ?_ ?_
   |refine LeO.bind ?_ (fun _=>?_)
set_option maxHeartbeats 8000000 in
theorem varint_Read.calls (k:Nat)(A0:Option Addr)(c0:Nat)(l0:List Int)(r1:Int)(r2:Int)(r3:Int)(w:World)(hr0:Kd.C (Kd.int .u8) w A0 l0.length l0)(hc0:l0.length≤c0)(h:varint_Read.f k l0=some (r1,r2,r3)) :
  Calls Tryz.prog 98 #[.slice A0 l0.length c0] w fun e w'=>e=.returned (.tuple #[.int .u64 r1,.int .i64 r2,.int .i64 r3])∧Below w.heap.size w w':=by
 have HR0:=Qz.k hr0
 have HC0:=Qz.k hc0
 clear hr0 hc0
 have HB:=Qz.k (Below.refl w.heap.size w)
 have H:(if 0≤(mn (l0.length:Int) 10)then(if(mn (l0.length:Int) 10)≤(l0.length:Int)then(varint_Read.l0 k 0 (l0.take ((mn (l0.length:Int) 10):Int).toNat) ((l0.take ((mn (l0.length:Int) 10):Int).toNat).length:Int) 0)else(none))else(none))=some (r1,r2,r3):=h
 clear h
 obtain⟨ji2,hji2⟩:∃ j_:Int,(mn (l0.length:Int) 10)=j_:=⟨_,rfl⟩
 replace H:(if 0≤(ji2)then(if(ji2)≤(l0.length:Int)then(varint_Read.l0 k 0 (l0.take ((ji2):Int).toNat) ((l0.take ((ji2):Int).toNat).length:Int) 0)else(none))else(none))=some (r1,r2,r3):=by first|(rw [hji2]at H;exact H)|(simp only [hji2]at H ⊢;exact H)
 (try(have hji2h:ji2≤10:=by(rw [←hji2];unfold mn;(repeat' split) <;> omega)))
 (try(have hji2g:ji2≤64:=by omega))
 (try(have hji2l:0≤ji2:=by(rw [←hji2];unfold mn;(repeat' split) <;> omega)))
 (try(have hji2m:0≤ji2:=by omega))
 have hji2_:(if 10<(l0.length:Int)then 10 else(l0.length:Int))=ji2:=hji2
 by_cases c3:0≤(ji2)
 ·rw [if_pos c3]at H
  have c3b0:=eq_true c3
  have c3b1:decide (0≤(ji2))=true:=decide_eq_true c3
  clear c3
  by_cases c4:(ji2)≤(l0.length:Int)
  ·rw [if_pos c4]at H
   have c4b0:=eq_true c4
   have c4b1:decide ((ji2)≤(l0.length:Int))=true:=decide_eq_true c4
   clear c4
   have H':=Qz.k H
   clear H
   obtain⟨i05,hi05,_,hsz5,_⟩:=info_parts info5
   obtain⟨hcut5,hA5,hC5⟩:=bsq (P:=Tryz.prog) (Value.int .u8) 0 27 5 .i64 Tryz.underlying27 hi05 hsz5 A0 c0 l0 (ji2) (of_decide_eq_true (by first|(with_reducible assumption)|assumption)) (of_decide_eq_true (by first|(with_reducible assumption)|assumption)) HC0.out
   have HR143:=Qz.k (Kd.aSk (h1:=fun _=>rfl) (hA5 _ (Kd.aRk HR0.out)))
   have HC143:=Qz.k hC5
   clear hA5 hC5 hi05 hsz5
   obtain⟨L_,hL_⟩:∃ L_:List Int,l0.take ((ji2):Int).toNat=L_:=⟨_,rfl⟩
   rw [hL_]at H'
   rw [hL_]at hcut5
   rw [hL_]at HR143
   rw [hL_]at HC143
   have HL_:=Qz.k hL_
   clear hL_
   go_enter Tryz.func98,Tryz.ntmps98
   go_wp2
   go_loopg [5,14] k (fun kq v5 v14 w'=>∃ (x5_1:Int) (x14_1:Int),v5=.int .u64 x5_1∧v14=.int .i64 x14_1∧Qz (varint_Read.l0 kq x5_1 L_ (L_.length:Int) x14_1=some (r1,r2,r3))∧Qz (kq≤k)∧Qz (Below w.heap.size w w'))
   case atStart=>exact⟨(0),(0),(by first|rfl|(simp;done)|(simp [*];done)),(by first|rfl|(simp;done)|(simp [*];done)),H',⟨Nat.le_refl _⟩,⟨au_⟩⟩
   case round=>
    clear H'
    try clear p2
    try clear c3
    try clear c3b0
    try clear c3b1
    try clear c4
    try clear c4b0
    try clear c4b1
    obtain⟨x5_1,x14_1,rfl,rfl,HA,HK1,HB⟩:=hrel
    cases gk with
    |zero=>exact absurd HA.out (by simp [varint_Read.l0])
    |succ k1=>
     have H:=HA.out
     clear HA
     simp only [varint_Read.l0]at H
     by_cases c6:x14_1<(L_.length:Int)
     ·rw [if_pos c6]at H
      have c6b0:decide (x14_1<(L_.length:Int))=true:=decide_eq_true c6
      clear c6
      by_cases c7:0≤x14_1
      ·rw [if_pos c7]at H
       have c7b0:decide (0≤x14_1)=true:=decide_eq_true c7
       clear c7
       by_cases c8:x14_1<(L_.length:Int)
       ·rw [if_pos c8]at H
        have c8b0:decide (x14_1<(L_.length:Int))=true:=decide_eq_true c8
        clear c8
        have HC9:=Qz.k H
        clear H
        have p144:0≤(x14_1:Int):=of_decide_eq_true (by first|(with_reducible assumption)|assumption)
        have q144:x14_1<(L_.length:Int):=of_decide_eq_true (by first|(with_reducible assumption)|assumption)
        obtain⟨ad144,e144,hx144_0⟩:=Kd.asz HR143.out x14_1 p144 q144
        cases e144
        replace hx144_0:=(HB.out.cell (World.block_lt_of_cell? w _ hx144_0)).trans hx144_0
        replace p144:=eq_true p144
        replace q144:=eq_true q144
        go_upto_region 5 with(fail)
        go_cut [24] (fun v24 wc=>∃ (kq:Nat) (x24_8:Bool),v24=.bool x24_8∧Qz (varint_Read.j1 kq x5_1 x14_1 (rd L_ x14_1) L_ (L_.length:Int) x14_1 x24_8=some (r1,r2,r3))∧Qz (kq≤k1)∧Qz (Below w.heap.size w wc))
        case first=>
         have H:=HC9.out
         clear HC9
         by_cases c10:x14_1=9
         ·rw [if_pos c10]at H
          have c10b0:(x14_1 == 9)=true:=beq_iff_eq.mpr c10
          have c10b1:(x14_1 != 9)=false:=bne_eq_false_iff_eq.mpr c10
          clear c10
          (first|rw [c10b0]|(simp only [abq,abk];rw [c10b0])|skip)
          have H':=Qz.k H
          clear H
          go_wp2
          go_meet
          case rel=>exact⟨_,(decide ((rd L_ x14_1) > 1)),(by first|rfl|(simp;done)|(simp only [←hji2] <;>(first|rfl|simp))|(simp [*];done)),H',⟨by have:=HK1.out;first|omega|exact Nat.le_refl _⟩,⟨au_⟩⟩
         ·rw [if_neg c10]at H
          have c10b0:(x14_1 == 9)=false:=beq_eq_false_iff_ne.mpr c10
          have c10b1:(x14_1 != 9)=true:=bne_iff_ne.mpr c10
          (first|rw [c10b0]|(simp only [abq,abk];rw [c10b0])|skip)
          have H':=Qz.k H
          clear H
          go_wp2
          go_meet
          case rel=>exact⟨_,(false),(by first|rfl|(simp;done)|(simp [*];done)),H',⟨by have:=HK1.out;first|omega|exact Nat.le_refl _⟩,⟨au_⟩⟩
        case rest=>
         clear HC9
         try clear c1
         try clear p1
         try clear q1
         try clear hx1
         try clear p2
         try clear c3
         try clear c3b0
         try clear c3b1
         try clear c4
         try clear c4b0
         try clear c4b1
         try clear c6
         try clear c6b0
         try clear c7
         try clear c7b0
         try clear c8
         try clear c8b0
         try clear c9
         try clear c10
         try clear c10b0
         try clear c10b1
         try clear hx144_0
         try clear p144
         try clear p2
         try clear q144
         obtain⟨kq,x24_8,rfl,HA,HJ8,HB⟩:=hcut
         cases kq with
         |zero=>exact absurd HA.out (by simp [varint_Read.j1])
         |succ kj8=>
          have H:=HA.out
          clear HA
          simp only [varint_Read.j1]at H
          by_cases c11:x24_8=true
          ·subst c11
           have H1:(some (0,0,3))=some (r1,r2,r3):=by rw [if_pos rfl]at H;exact H
           clear H
           have H:=H1
           clear H1
           simp only [Option.some.injEq,Prod.mk.injEq]at H
           obtain⟨rfl,rfl,rfl⟩:=H
           go_wp2
           go_ret3
           exact⟨by first|rfl|(simp [aek,aeq] <;> rfl)|(simp only [←hji2];first|rfl|(simp [aek,aeq] <;> rfl))|(simp [*,aek,aeq] <;> rfl),au_⟩
          ·replace c11:=Bool.eq_false_iff.mpr c11
           subst c11
           have H1:(if 0≤(wrap64 (7*x14_1))then(if(rd L_ x14_1)≥128 then(varint_Read.l0 kj8 (Go.bits .or .u64 x5_1 (shl .u64 (IntKind.u64.wrap (Go.bits .andNot .u8 (rd L_ x14_1) 128)) (wrap64 (7*x14_1)))) L_ (L_.length:Int) (wrap64 (x14_1+1)))else(if(rd L_ x14_1)=0 then(if x14_1 > 0 then(some (0,0,3))else(some (Go.bits .or .u64 x5_1 (shl .u64 (IntKind.u64.wrap (Go.bits .andNot .u8 (rd L_ x14_1) 128)) (wrap64 (7*x14_1))),wrap64 (x14_1+1),0)))else(some (Go.bits .or .u64 x5_1 (shl .u64 (IntKind.u64.wrap (Go.bits .andNot .u8 (rd L_ x14_1) 128)) (wrap64 (7*x14_1))),wrap64 (x14_1+1),0))))else(none))=some (r1,r2,r3):=by rw [if_neg (show ¬ (false=true)by decide)]at H;exact H
           clear H
           have H:=H1
           clear H1
           obtain⟨ji12,hji12⟩:∃ j_:Int,(wrap64 (7*x14_1))=j_:=⟨_,rfl⟩
           replace H:(if 0≤(ji12)then(if(rd L_ x14_1)≥128 then(varint_Read.l0 kj8 (Go.bits .or .u64 x5_1 (shl .u64 (IntKind.u64.wrap (Go.bits .andNot .u8 (rd L_ x14_1) 128)) (ji12))) L_ (L_.length:Int) (wrap64 (x14_1+1)))else(if(rd L_ x14_1)=0 then(if x14_1 > 0 then(some (0,0,3))else(some (Go.bits .or .u64 x5_1 (shl .u64 (IntKind.u64.wrap (Go.bits .andNot .u8 (rd L_ x14_1) 128)) (ji12)),wrap64 (x14_1+1),0)))else(some (Go.bits .or .u64 x5_1 (shl .u64 (IntKind.u64.wrap (Go.bits .andNot .u8 (rd L_ x14_1) 128)) (ji12)),wrap64 (x14_1+1),0))))else(none))=some (r1,r2,r3):=by first|(rw [hji12]at H;exact H)|(simp only [hji12]at H ⊢;exact H)
           have hji12w:(IntKind.i64.wrap (7*x14_1))=ji12:=(abq _).trans hji12
           by_cases c13:0≤(ji12)
           ·rw [if_pos c13]at H
            have c13b0:=eq_true c13
            have c13b1:decide (0≤(ji12))=true:=decide_eq_true c13
            clear c13
            obtain⟨ji14,hji14⟩:∃ j_:Int,(shl .u64 (IntKind.u64.wrap (Go.bits .andNot .u8 (rd L_ x14_1) 128)) (ji12))=j_:=⟨_,rfl⟩
            replace H:(if(rd L_ x14_1)≥128 then(varint_Read.l0 kj8 (Go.bits .or .u64 x5_1 (ji14)) L_ (L_.length:Int) (wrap64 (x14_1+1)))else(if(rd L_ x14_1)=0 then(if x14_1 > 0 then(some (0,0,3))else(some (Go.bits .or .u64 x5_1 (ji14),wrap64 (x14_1+1),0)))else(some (Go.bits .or .u64 x5_1 (ji14),wrap64 (x14_1+1),0))))=some (r1,r2,r3):=by first|(rw [hji14]at H;exact H)|(simp only [hji14]at H ⊢;exact H)
            have hji14_:(IntKind.u64.wrap ((IntKind.u64.wrap (Go.bits .andNot .u8 (rd L_ x14_1) 128))*2 ^ min (ji12).toNat 64))=ji14:=hji14
            have hji14z:(ji12)≤64→(IntKind.u64.wrap ((IntKind.u64.wrap (Go.bits .andNot .u8 (rd L_ x14_1) 128))*2 ^ (ji12).toNat))=ji14:=shl_small hji14
            by_cases c15:(rd L_ x14_1)≥128
            ·rw [if_pos c15]at H
             have c15b0:decide (128≤(rd L_ x14_1))=true:=decide_eq_true c15
             clear c15
             have H':=Qz.k H
             clear H
             go_wp2
             go_roundg kj8
             case measure=>have:=HK1.out;have:=HJ8.out;omega
             case rel=>exact⟨(Go.bits .or .u64 x5_1 (ji14)),(wrap64 (x14_1+1)),(by first|rfl|(simp;done)|(simp only [←hji14] <;>(first|rfl|simp))|(simp [*];done)),(by first|rfl|(simp;done)|(simp [*];done)),H',⟨by have:=HK1.out;have:=HJ8.out;omega⟩,⟨au_⟩⟩
            ·rw [if_neg c15]at H
             have c15b0:decide (128≤(rd L_ x14_1))=false:=decide_eq_false c15
             clear c15
             by_cases c16:(rd L_ x14_1)=0
             ·rw [if_pos c16]at H
              have c16b0:((rd L_ x14_1) == 0)=true:=beq_iff_eq.mpr c16
              have c16b1:((rd L_ x14_1) != 0)=false:=bne_eq_false_iff_eq.mpr c16
              clear c16
              by_cases c17:x14_1 > 0
              ·rw [if_pos c17]at H
               have c17b0:decide (0<x14_1)=true:=decide_eq_true c17
               clear c17
               simp only [Option.some.injEq,Prod.mk.injEq]at H
               obtain⟨rfl,rfl,rfl⟩:=H
               go_wp2
               go_ret3
               exact⟨by first|rfl|(simp [aek,aeq] <;> rfl)|(simp only [←hji2,←hji12,←hji14];first|rfl|(simp [aek,aeq] <;> rfl))|(simp [*,aek,aeq] <;> rfl),au_⟩
              ·rw [if_neg c17]at H
               have c17b0:decide (0<x14_1)=false:=decide_eq_false c17
               clear c17
               simp only [Option.some.injEq,Prod.mk.injEq]at H
               obtain⟨rfl,rfl,rfl⟩:=H
               go_wp2
               go_ret3
               exact⟨by first|rfl|(simp [aek,aeq] <;> rfl)|(simp only [←hji2,←hji12,←hji14];first|rfl|(simp [aek,aeq] <;> rfl))|(simp [*,aek,aeq] <;> rfl),au_⟩
             ·rw [if_neg c16]at H
              have c16b0:((rd L_ x14_1) == 0)=false:=beq_eq_false_iff_ne.mpr c16
              have c16b1:((rd L_ x14_1) != 0)=true:=bne_iff_ne.mpr c16
              simp only [Option.some.injEq,Prod.mk.injEq]at H
              obtain⟨rfl,rfl,rfl⟩:=H
              go_wp2
              go_ret3
              exact⟨by first|rfl|(simp [aek,aeq] <;> rfl)|(simp only [←hji2,←hji12,←hji14];first|rfl|(simp [aek,aeq] <;> rfl))|(simp [*,aek,aeq] <;> rfl),au_⟩
           ·rw [if_neg c13]at H
            exact absurd H (by simp)
       ·rw [if_neg c8]at H
        exact absurd H (by simp)
      ·rw [if_neg c7]at H
       exact absurd H (by simp)
     ·rw [if_neg c6]at H
      have c6b0:decide (x14_1<(L_.length:Int))=false:=decide_eq_false c6
      clear c6
      simp only [Option.some.injEq,Prod.mk.injEq]at H
      obtain⟨rfl,rfl,rfl⟩:=H
      go_wp2
      go_ret3
      exact⟨by first|rfl|(simp [aek,aeq] <;> rfl)|(simp only [←hji2];first|rfl|(simp [aek,aeq] <;> rfl))|(simp [*,aek,aeq] <;> rfl),au_⟩
  ·rw [if_neg c4]at H
   exact absurd H (by simp)
 ·rw [if_neg c3]at H
  exact absurd H (by simp)
def slices_Clone_int_int.f (l0:List Int):Option (List Int):=(some (([]:List Int):List Int)).bind fun y145=>(if y145.length+l0.length<17592186044416 then(some (y145++l0))else(none))
set_option maxHeartbeats 8000000 in
theorem slices_Clone_int_int.bzk (A0_:Addr)(c0:Nat)(l0:List Int)(r:List Int)(w:World)(hr0:Kd.C (Kd.int .i64) w (some A0_) l0.length l0)(hc0:l0.length≤c0)(h:slices_Clone_int_int.f l0=some r) :
  Calls Tryz.prog 190 #[.slice (some A0_) l0.length c0] w fun e w'=>∃ v0_:Value,e=.returned (v0_)∧Kd.R (Kd.int .i64) 3 w' w.heap.size (fun _=>True) v0_ r∧Below w.heap.size w w':=by
 have qnil:∀ (w:World) (a:Option Addr) (n c n' c':Nat),(binOp .eql 80 (.slice a n c) (.slice none n' c')).run Tryz.prog w=.ok (.bool a.isNone) w:=fun w a n c n' c'=>Lib.run_eql_slice_nil w _ _ a n c n' c' Tryz.underlying80
 have HR0:=Qz.k hr0
 have HC0:=Qz.k hc0
 clear hr0 hc0
 have HB:=Qz.k (Below.refl w.heap.size w)
 have H:((some (([]:List Int):List Int)).bind fun y145=>(if y145.length+l0.length<17592186044416 then(some (y145++l0))else(none)))=some r:=h
 clear h
 obtain⟨y145,hy145⟩:∃ y_:List Int,y_=(([]:List Int)):=⟨_,rfl⟩
 replace H:(if y145.length+l0.length<17592186044416 then(some (y145++l0))else(none))=some r:=by first|(rw [hy145];with_reducible exact H)|(have H2_:=(Option.bind_some _ _).symm.trans H;rw [hy145];with_reducible exact H2_)|(have H2_:=(Option.bind_some _ _).symm.trans H;with_reducible exact H2_)|with_reducible exact H|(rw [hy145];exact H)|exact H
 have Ny145:=Qz.k hy145
 clear hy145
 by_cases c2:y145.length+l0.length<17592186044416
 ·rw [if_pos c2]at H
  have LMc2:=Qz.k c2
  clear c2
  obtain⟨y148,hy148⟩:∃ y_:List Int,y_=(y145++l0):=⟨_,rfl⟩
  replace H:(some y148)=some r:=by first|(rw [hy148];with_reducible exact H)|(have H2_:=(Option.bind_some _ _).symm.trans H;rw [hy148];with_reducible exact H2_)|(have H2_:=(Option.bind_some _ _).symm.trans H;with_reducible exact H2_)|with_reducible exact H|(rw [hy148];exact H)|exact H
  have Ny148:=Qz.k hy148
  clear hy148
  obtain rfl:=Option.some.inj H
  go_enter Tryz.func190,Tryz.ntmps190
  go_wp2_with (first|((with_reducible refine ahk (N:=5) rfl ?_);refine Kd.bwz (Kd.int .i64) _ 3 ?hg (N:=5) ?hd (xs:=([]:List Int)) (inner:=[]) (ok:=fun _=>True) (okp:=fun _=>True) ?hr ?hp (fun _ hk=>hk) trivial (Below.refl _ _) (Nat.le_refl _) (by simp) ?_;(case hd=>rfl);(case hg=>rfl);(case hr=>first|(go_simp;done)|(go_simp;rfl));(case hp=>exact(Reps.none _ _));intro v146 w3 ho4 hb hg_ hnew_;clear hg_ hnew_;(first|rw [←Ny145.out]at ho4|(simp only [Int.reduceToNat]at ho4;rw [←Ny145.out]at ho4));have n0_:=Qz.k (Kd.aiq ho4 (afq au_));have n1_:=Qz.k (aaz au_ hb);clear HB;have HO147:=n0_;have HB:=n1_;clear n0_ n1_;clear hb ho4)|((with_reducible refine agk (b := .append) (xs:=#[.tmp 5,.tmp 6]) rfl ?_);at_builtin;refine Kd.ahq (Kd.int .i64) (w0:=w) w.heap.size rfl (.tmp 5) (.tmp 6) 80 3 (.int .i64 0) 8 rfl Tryz.underlying80 info3 rfl (by decide) (by omega) v146 y145 l0 _ _ _ (fun _=>True) (fun _=>False) rfl rfl ?aO ?aR (fun _ _ h=>h) (fun _ h=>h.elim) ?aF ?aB ?aS ?aL ?_;(case aR=>repeat(first|exact(Kd.acz HR0.out HB.out)|(with_reducible refine Kd.aqk ?_ _)|(with_reducible refine Kd.aqz ?_ _)|(with_reducible refine Kd.atq ?_)));(case aB=>exact au_);(case aF=>exact(fun _ _=>trivial));(case aO=>exact(al_ HO147.out));(case aS=>exact(afq au_));(case aL=>have:=LMc2.out;omega);intro v149 w5 ho hb hg hat;rw [←Ny148.out]at ho;have n0_:=Qz.k (hb);have n1_:=Qz.k (ho);clear HB;clear HO147;have HB:=n0_;have HO150:=n1_;clear n0_ n1_;clear ho hb hg hat))
  go_ret
  exact⟨_,by first|rfl|(simp [aek,aeq] <;> rfl)|(simp [*,aek,aeq] <;> rfl),by(with_reducible repeat(first|apply Kd.akq|apply Kd.akk|apply Kd.amz));exact HO150.out,au_⟩
 ·rw [if_neg c2]at H
  exact absurd H (by simp)
set_option maxHeartbeats 8000000 in
theorem slices_Clone_int_int.calls (A0:Option Addr)(c0:Nat)(l0:List Int)(r:List Int)(w:World)(hr0:Kd.C (Kd.int .i64) w A0 l0.length l0)(hc0:l0.length≤c0)(h:slices_Clone_int_int.f l0=some r) :
  Calls Tryz.prog 190 #[.slice A0 l0.length c0] w fun e w'=>∃ v0_:Value,e=.returned (v0_)∧Kd.R (Kd.int .i64) 3 w' w.heap.size (fun _=>True) v0_ r∧Below w.heap.size w w':=by
 cases A0 with
 |some a=>exact slices_Clone_int_int.bzk a c0 l0 r w hr0 hc0 h
 |none=>
  have hl:l0=[]:=by
   rcases Nat.eq_zero_or_pos l0.length with h0|h0
   ·exact List.eq_nil_of_length_eq_zero h0
   ·obtain⟨ad,he,_⟩:=hr0.2.2 h0
    cases he
  subst hl
  have hrr:r=[]:=by
   simp [slices_Clone_int_int.f]at h
   first|exact h|exact h.symm
  subst hrr
  have qnil:∀ (w:World) (a:Option Addr) (n c n' c':Nat),(binOp .eql 80 (.slice a n c) (.slice none n' c')).run Tryz.prog w=.ok (.bool a.isNone) w:=fun w a n c n' c'=>Lib.run_eql_slice_nil w _ _ a n c n' c' Tryz.underlying80
  clear hr0 hc0 h
  go_enter Tryz.func190,Tryz.ntmps190
  go_wp2
  go_ret
  exact⟨_,rfl,Kd.ayz _ _ _ _ _,Below.refl _ _⟩
end Go.Proofs.YthggdomocichdaaGreatDoor.P
namespace Go.Proofs.YthggdomocichdaaGreatDoor.Var
open Go.RowKit Go.Proofs.YthggdomocichdaaGreatDoor.P Go.Proofs.YthggdomocichdaaGreatDoor.Kit Go.Proofs.YthggdomocichdaaGreatDoorW.PrintWords Go.Proofs.YthggdomocichdaaGreatDoorW.PrintLast Go.Proofs.YthggdomocichdaaGreatDoorW.PrintMore
def vn (v:Nat):List Int:=if h:128≤v then((v%128+128:Nat):Int) :: vn (v/128)else [(v:Int)]
termination_by v
decreasing_by omega
theorem bGz (v:Nat)(h:128≤v):vn v=((v%128+128:Nat):Int) :: vn (v/128):=by
 rw [vn,dif_pos h]
theorem aHq (v:Nat)(h:v<128):vn v=[(v:Int)]:=by
 rw [vn,dif_neg (by omega)]
theorem vn_le (n v:Nat)(hv:v<128 ^ n)(hn:1≤n):(vn v).length≤n:=by
 induction n generalizing v with
 |zero=>omega
 |succ n ih=>
  rcases Nat.lt_or_ge v 128 with h|h
  ·rw [aHq v h]
   simp
  ·rw [bGz v h,List.length_cons]
   have h1:v/128<128 ^ n:=by
    rw [Nat.pow_succ]at hv
    omega
   have hn1:1≤n:=by
    rcases Nat.eq_zero_or_pos n with e|e
    ·subst e
     simp at hv
     omega
    ·exact e
   have:=ih (v/128) h1 hn1
   omega
theorem avk (v:Nat)(hv:v<18446744073709551616):(vn v).length≤10:=vn_le 10 v (by omega) (by omega)
theorem vn_byte (v:Nat):∀ x∈vn v,0≤x∧x<256:=by
 induction v using Nat.strongRecOn with
 | _ v ih=>
  intro x hx
  rcases Nat.lt_or_ge v 128 with h|h
  ·rw [aHq v h,List.mem_singleton]at hx
   omega
  ·rw [bGz v h]at hx
   rcases List.mem_cons.1 hx with e|e
   ·omega
   ·exact ih (v/128) (by omega) x e
theorem clone_f (l:List Int)(h:l.length<140737488355328):slices_Clone_byte_byte.f l=some l:=by
 unfold slices_Clone_byte_byte.f
 simp [h]
theorem with_f (a b:List Int)(h:a.length+b.length<140737488355328):varint_with.f a b=some (a++b):=by
 unfold varint_with.f
 rw [if_pos h]
theorem Append_loop (v:Nat):∀ b:List Int,b.length+(vn v).length<140737488355328→Evn (fun k=>varint_Append.l0 k (v:Int) b) (b++vn v):=by
 induction v using Nat.strongRecOn with
 | _ v ih=>
  intro b hb
  rcases Nat.lt_or_ge v 128 with h|h
  ·rw [aHq v h]at hb ⊢
   refine Evn.succ (Evn.pure _) fun k=>?_
   simp only [varint_Append.l0]
   rw [if_neg (by omega),show(v:Int)%256=(v:Int)by omega,with_f _ _ (by simpa using hb),Option.bind_some]
  ·rw [bGz v h]at hb ⊢
   have h2:=ih (v/128) (by omega) (b ++ [((v%128+128:Nat):Int)]) (by simp at hb ⊢;omega)
   rw [List.append_assoc,List.singleton_append]at h2
   refine Evn.succ h2 fun k=>?_
   simp only [varint_Append.l0]
   rw [if_pos (by omega),k8_or ((v:Int)%256) (by omega) (by omega),show(v:Int)%256%128+128=((v%128+128:Nat):Int)by omega,with_f _ _ (by simp at hb ⊢;omega),Option.bind_some,show(v:Int)/128=((v/128:Nat):Int)by omega]
theorem biz (b:List Int)(v:Nat)(hb:b.length+10<140737488355328)(hv:v<18446744073709551616):Evn (fun k=>varint_Append.f k b (v:Int)) (b++vn v):=by
 have:=avk v hv
 unfold varint_Append.f
 exact Evn.bik (clone_f b (by omega)) (Append_loop v b (by omega))
theorem bfk (b:List Int)(v:Int)(hb:b.length+10<140737488355328)(h0:0≤v)(h1:v<18446744073709551616):Evn (fun k=>varint_Append.f k b v) (b++vn v.toNat):=by
 have:=biz b v.toNat hb (by omega)
 rwa [show((v.toNat:Nat):Int)=v by omega]at this
def aAz : List Int→Nat→Int→Int×Int×Int
 | [],_,_=>(0,0,2)
 |x :: t,i,acc=>if i=9∧1<x then(0,0,3)else if 128≤x then aAz t (i+1) (acc+(x-128)*2 ^ (7*i))else if x=0∧0<i then(0,0,3)else(acc+x*2 ^ (7*i),((i+1:Nat):Int),0)
def Bytes (b:List Int):Prop := ∀ x∈b,0≤x∧x<256
theorem Bytes.take {b:List Int}(h:Bytes b)(n:Nat):Bytes (b.take n):=fun x hx=>h x (List.mem_of_mem_take hx)
theorem Bytes.drop {b:List Int}(h:Bytes b)(n:Nat):Bytes (b.drop n):=fun x hx=>h x (List.mem_of_mem_drop hx)
theorem Bytes.append {a b:List Int}(ha:Bytes a)(hb:Bytes b):Bytes (a++b):=fun x hx=>by
 rcases List.mem_append.1 hx with h|h
 ·exact ha x h
 ·exact hb x h
theorem Bytes.tail {a:Int}{b:List Int}(h:Bytes (a :: b)):Bytes b:=fun x hx=>h x (List.mem_cons_of_mem _ hx)
theorem Bytes.nil : Bytes []:=fun x hx=>by cases hx
theorem p7 (i:Nat)(h:i≤9):((2:Int) ^ (7*i))*128=2 ^ (7*(i+1))∧1≤(2:Int) ^ (7*i)∧(2:Int) ^ (7*i)≤9223372036854775808:=by
 have:∀ i:Fin 10,((2:Int) ^ (7*(i:Nat)))*128=2 ^ (7*((i:Nat)+1))∧1≤(2:Int) ^ (7*(i:Nat))∧(2:Int) ^ (7*(i:Nat))≤9223372036854775808:=by decide +kernel
 exact this ⟨i,by omega⟩
theorem p7' (i:Nat)(h:i≤8):(2:Int) ^ (7*i)≤72057594037927936:=by
 have:∀ i:Fin 9,(2:Int) ^ (7*(i:Nat))≤72057594037927936:=by decide +kernel
 exact this ⟨i,by omega⟩
theorem vread_take (b:List Int)(hb:Bytes b)(m i:Nat)(acc:Int)(hi:i≤9)(hm:10≤m+i):aAz (b.take m) i acc=aAz b i acc:=by
 induction b generalizing m i acc with
 |nil=>simp
 |cons x t ih=>
  obtain⟨m,rfl⟩:∃ q,m=q+1:=⟨m-1,by omega⟩
  rw [List.take_succ_cons,aAz,aAz]
  by_cases c1:i=9∧1<x
  ·rw [if_pos c1,if_pos c1]
  ·rw [if_neg c1,if_neg c1]
   by_cases c2:128≤x
   ·rw [if_pos c2,if_pos c2,ih hb.tail m (i+1) _ (by omega) (by omega)]
   ·rw [if_neg c2,if_neg c2]
theorem vread_err (b:List Int)(i:Nat)(acc:Int):(aAz b i acc).2.2=0∨(aAz b i acc).1=0∧(aAz b i acc).2.1=0∧((aAz b i acc).2.2=2∨(aAz b i acc).2.2=3):=by
 induction b generalizing i acc with
 |nil=>right;simp [aAz]
 |cons x t ih=>
  rw [aAz]
  by_cases c1:i=9∧1<x
  ·rw [if_pos c1]
   right
   simp
  ·rw [if_neg c1]
   by_cases c2:128≤x
   ·rw [if_pos c2]
    exact ih _ _
   ·rw [if_neg c2]
    by_cases c3:x=0∧0<i
    ·rw [if_pos c3]
     right
     simp
    ·rw [if_neg c3]
     left
     rfl
theorem vread_vn (v:Nat):∀ (i:Nat) (acc:Int) (rest:List Int),i≤9→(v:Int)*2 ^ (7*i)<18446744073709551616→(0<i→0<v)→aAz (vn v++rest) i acc=(acc+(v:Int)*2 ^ (7*i),((i+(vn v).length:Nat):Int),0):=by
 induction v using Nat.strongRecOn with
 | _ v ih=>
  intro i acc rest hi hv hp
  obtain⟨q1,q2,q3⟩:=p7 i hi
  have h9:i=9→v<2:=fun e=>by
   subst e
   have:(2:Int) ^ (7*9)=9223372036854775808:=by decide
   rw [this]at hv
   omega
  rcases Nat.lt_or_ge v 128 with h|h
  ·rw [aHq v h,List.singleton_append,aAz,if_neg (by omega),if_neg (by omega),if_neg (by omega)]
   rfl
  ·have hi9:i<9:=by
    rcases Nat.lt_or_ge i 9 with c|c
    ·exact c
    ·have:=h9 (by omega)
     omega
   have e:(v:Int)=((v%128:Nat):Int)+128*((v/128:Nat):Int):=by omega
   have hstep:((v/128:Nat):Int)*2 ^ (7*(i+1))≤(v:Int)*2 ^ (7*i):=by
    rw [←q1]
    have:((v/128:Nat):Int)*128≤(v:Int):=by omega
    calc ((v/128:Nat):Int)*(2 ^ (7*i)*128)=((v/128:Nat):Int)*128*2 ^ (7*i):=by rw [Int.mul_comm (2 ^ (7*i)) 128,←Int.mul_assoc]
     _≤(v:Int)*2 ^ (7*i):=Int.mul_le_mul_of_nonneg_right this (by omega)
   rw [bGz v h,List.cons_append,aAz,if_neg (by omega),if_pos (by omega),ih (v/128) (by omega) (i+1) _ rest (by omega) (by omega) (by omega)]
   refine Prod.ext ?_ (Prod.ext ?_ rfl)
   ·show acc+(((v%128+128:Nat):Int)-128)*2 ^ (7*i)+((v/128:Nat):Int)*2 ^ (7*(i+1))=acc+(v:Int)*2 ^ (7*i)
    rw [←q1,show((v%128+128:Nat):Int)-128=((v%128:Nat):Int)by omega]
    generalize (2:Int) ^ (7*i)=p
    rw [e,Int.add_mul,Int.mul_comm p 128,←Int.mul_assoc,Int.mul_comm 128 ((v/128:Nat):Int)]
    omega
   ·show((i+1+(vn (v/128)).length:Nat):Int)=((i+(vn (v/128)).length.succ:Nat):Int)
    omega
theorem vread_only (b:List Int):∀ (i:Nat) (acc r n:Int),Bytes b→i≤9→aAz b i acc=(r,n,0)→∃ u:Nat,r=acc+(u:Int)*2 ^ (7*i)∧n=((i+(vn u).length:Nat):Int)∧(vn u).length≤b.length∧b.take (vn u).length=vn u∧(0<i→0<u)∧(u:Int)*2 ^ (7*i)<18446744073709551616:=by
 induction b with
 |nil=>intro i acc r n _ _ h;simp [aAz]at h
 |cons x t ih=>
  intro i acc r n hb hi h
  obtain⟨hx0,hx1⟩:=hb x (List.mem_cons_self ..)
  obtain⟨q1,q2,q3⟩:=p7 i hi
  rw [aAz]at h
  by_cases c1:i=9∧1<x
  ·rw [if_pos c1]at h
   simp at h
  ·rw [if_neg c1]at h
   by_cases c2:128≤x
   ·rw [if_pos c2]at h
    have hi9:i<9:=by omega
    have q4:=p7' i (by omega)
    obtain⟨u,e1,e2,e3,e4,e5,e6⟩:=ih (i+1) _ r n hb.tail (by omega) h
    have hu:=e5 (by omega)
    have hbig:128≤(x-128).toNat+128*u:=by omega
    have hm:((x-128).toNat+128*u)%128=(x-128).toNat:=by omega
    have hd:((x-128).toNat+128*u)/128=u:=by omega
    refine⟨(x-128).toNat+128*u,?_,?_,?_,?_,fun _=>by omega,?_⟩
    ·rw [e1,←q1,show(((x-128).toNat+128*u:Nat):Int)=(x-128)+128*(u:Int)by omega]
     generalize (2:Int) ^ (7*i)=p
     rw [Int.add_mul,Int.mul_comm p 128,←Int.mul_assoc,Int.mul_comm 128 (u:Int)]
     omega
    ·rw [e2,bGz _ hbig,hd,List.length_cons]
     omega
    ·rw [bGz _ hbig,hd,List.length_cons,List.length_cons]
     omega
    ·rw [bGz _ hbig,hd,hm,List.length_cons,List.take_succ_cons,e4]
     congr 1
     omega
    ·rw [show(((x-128).toNat+128*u:Nat):Int)=(x-128)+128*(u:Int)by omega]
     rw [←q1]at e6
     -- u*(p*128) is below 2^64 and a multiple of p*128=2^(7i+7),which divides 2^64
     have key:∀ i:Fin 9,∃ q:Int,q*((2:Int) ^ (7*(i:Nat))*128)=18446744073709551616∧0<(2:Int) ^ (7*(i:Nat)):=by
      intro i
      refine⟨18446744073709551616/((2:Int) ^ (7*(i:Nat))*128),?_⟩
      revert i
      decide +kernel
     obtain⟨q,hq,hp⟩:=key ⟨i,hi9⟩
     simp only at hq hp
     generalize (2:Int) ^ (7*i)=p at e6 hq hp ⊢
     have huq:(u:Int)<q:=by
      rw [←hq]at e6
      exact Int.lt_of_mul_lt_mul_right e6 (by omega)
     have h3:((u:Int)+1)*(p*128)≤q*(p*128):=Int.mul_le_mul_of_nonneg_right (by omega) (by omega)
     rw [hq,Int.add_mul,Int.one_mul]at h3
     have h4:(x-128)*p≤127*p:=Int.mul_le_mul_of_nonneg_right (by omega) (by omega)
     rw [Int.add_mul,Int.mul_comm 128 (u:Int),Int.mul_assoc,Int.mul_comm 128 p]
     omega
   ·rw [if_neg c2]at h
    by_cases c3:x=0∧0<i
    ·rw [if_pos c3]at h
     simp at h
    ·rw [if_neg c3]at h
     simp only [Prod.mk.injEq,and_true]at h
     obtain⟨rfl,rfl⟩:=h
     have hs:=aHq x.toNat (by omega)
     refine⟨x.toNat,?_,?_,?_,?_,fun _=>by omega,?_⟩
     ·rw [show((x.toNat:Nat):Int)=x by omega]
     ·rw [hs]
      rfl
     ·rw [hs]
      simp
     ·rw [hs]
      simp
      omega
     ·rw [show((x.toNat:Nat):Int)=x by omega]
      rcases Nat.lt_or_ge i 9 with c|c
      ·have q4:=p7' i (by omega)
       have h4:x*2 ^ (7*i)≤127*2 ^ (7*i):=Int.mul_le_mul_of_nonneg_right (by omega) (by omega)
       omega
      ·have:i=9:=by omega
       subst this
       have:(2:Int) ^ (7*9)=9223372036854775808:=by decide
       rw [this]
       omega
theorem put7 (i:Nat)(acc y:Int)(hi:i≤9)(hy0:0≤y)(hy1:y≤127)(h9:i=9→y≤1)(ha0:0≤acc)(ha1:acc<2 ^ (7*i)) :
  shl .u64 (IntKind.u64.wrap y) (wrap64 (7*(i:Int)))=y*2 ^ (7*i)∧Go.bits .or .u64 acc (y*2 ^ (7*i))=acc+y*2 ^ (7*i)∧acc+y*2 ^ (7*i)<18446744073709551616∧0≤acc+y*2 ^ (7*i)∧acc+y*2 ^ (7*i)<2 ^ (7*(i+1)):=by
 obtain⟨q1,q2,q3⟩:=p7 i hi
 have hm0:0≤y*2 ^ (7*i):=Int.mul_nonneg hy0 (by omega)
 have hm1:y*2 ^ (7*i)≤127*2 ^ (7*i):=Int.mul_le_mul_of_nonneg_right hy1 (by omega)
 have hm2:acc+y*2 ^ (7*i)<18446744073709551616:=by
  rcases Nat.lt_or_ge i 9 with c|c
  ·have q4:=p7' i (by omega)
   omega
  ·have:i=9:=by omega
   subst this
   have h9':=h9 rfl
   have e:(2:Int) ^ (7*9)=9223372036854775808:=by decide
   rw [e]at ha1 ⊢
   omega
 refine⟨?_,?_,hm2,by omega,by omega⟩
 ·rw [aOq y hy0 (by omega)]
  exact k_shl y _ (7*i) (by unfold wrap64;omega) (by omega) hm0 (by omega)
 ·exact k64_or_add (7*i) acc _ ha0 ha1 hm0 (Int.mul_emod_left _ _) (by omega) (by omega)
theorem Read_loop (b:List Int)(hlen:b.length≤10)(hb:Bytes b)(t:List Int):∀ (p:List Int) (acc:Int),b=p++t→0≤acc→acc<2 ^ (7*p.length)→Evn (fun k=>varint_Read.l0 k acc b (b.length:Int) (p.length:Int)) (aAz t p.length acc):=by
 induction t with
 |nil=>
  intro p acc e _ _
  refine Evn.succ (Evn.pure _) fun k=>?_
  simp only [varint_Read.l0]
  rw [if_neg (by rw [e];simp)]
  rfl
 |cons x t ih=>
  intro p acc e h0 h1
  have hp:p.length+(t.length+1)≤10:=by
   have:=congrArg List.length e
   simp at this
   omega
  have hx:=hb x (by rw [e];simp)
  have hr:rd b (p.length:Int)=x:=by
   rw [e]
   exact rd_mid _ _ _ _ rfl
  have hlt:(p.length:Int)<(b.length:Int):=by
   rw [e]
   simp
   omega
  have hw:wrap64 ((p.length:Int)+1)=((p.length+1:Nat):Int):=by
   unfold wrap64
   omega
  -- the rest,the byte's test being told
  have key:∀ fl:Bool,fl=decide (p.length=9∧1<x)→Evn (fun k=>varint_Read.j1 k acc (p.length:Int) x b (b.length:Int) (p.length:Int) fl) (aAz (x :: t) p.length acc):=by
   intro fl hfl
   rw [aAz]
   by_cases c1:p.length=9∧1<x
   ·rw [if_pos c1,hfl,decide_eq_true c1]
    refine Evn.succ (Evn.pure _) fun k=>?_
    simp only [varint_Read.j1]
    rw [if_pos trivial]
   ·rw [if_neg c1,hfl,decide_eq_false c1]
    have hpos:0≤wrap64 (7*(p.length:Int)):=by
     rw [agq (by omega) (by omega)]
     omega
    by_cases c2:128≤x
    ·obtain⟨z1,z2,z3,z4,z5⟩:=put7 p.length acc (x-128) (by omega) (by omega) (by omega) (by omega) h0 h1
     rw [if_pos c2]
     have h2:=ih (p ++ [x]) (acc+(x-128)*2 ^ (7*p.length)) (by rw [e];simp) z4 (by simpa using z5)
     simp only [List.length_append,List.length_singleton]at h2
     refine Evn.succ h2 fun k=>?_
     simp only [varint_Read.j1]
     rw [if_neg (by simp),if_pos hpos,if_pos c2,k8_clear x hx.1 hx.2,show x%128=x-128 by omega,z1,z2,hw]
    ·obtain⟨z1,z2,z3,z4,z5⟩:=put7 p.length acc x (by omega) (by omega) (by omega) (by omega) h0 h1
     rw [if_neg c2]
     refine Evn.succ (Evn.pure _) fun k=>?_
     simp only [varint_Read.j1]
     rw [if_neg (by simp),if_pos hpos,if_neg (by omega),k8_clear x hx.1 hx.2,show x%128=x by omega,z1,z2,hw]
     by_cases c3:x=0
     ·rw [if_pos c3]
      by_cases c4:0<p.length
      ·rw [if_pos (by omega),if_pos ⟨c3,c4⟩]
      ·rw [if_neg (by omega),if_neg (fun h=>c4 h.2)]
     ·rw [if_neg c3,if_neg (fun h=>c3 h.1)]
  by_cases c9:(p.length:Int)=9
  ·refine Evn.succ (key (decide (x > 1)) (by simp [show p.length=9 by omega])) fun k=>?_
   simp only [varint_Read.l0]
   rw [if_pos hlt,if_pos (by omega),if_pos hlt,if_pos c9,hr]
  ·refine Evn.succ (key false (by simp;omega)) fun k=>?_
   simp only [varint_Read.l0]
   rw [if_pos hlt,if_pos (by omega),if_pos hlt,if_neg c9,hr]
theorem Read_ev (b:List Int)(hb:Bytes b)(hl:b.length<140737488355328):Evn (fun k=>varint_Read.f k b) (aAz b 0 0):=by
 unfold varint_Read.f
 have e:(mn (b.length:Int) 10).toNat=min b.length 10:=by
  unfold mn
  split <;> omega
 refine Evn.pos (by unfold mn;split <;> omega) (Evn.pos (by unfold mn;split <;> omega) ?_)
 rw [e]
 have ht:b.take (min b.length 10)=b.take 10:=by
  rcases Nat.lt_or_ge b.length 10 with c|c
  ·rw [Nat.min_eq_left (by omega),List.take_of_length_le (by omega),List.take_of_length_le (by omega)]
  ·rw [Nat.min_eq_right c]
 rw [ht]
 have:=Read_loop (b.take 10) (by rw [List.length_take];omega) (hb.take 10) (b.take 10) [] 0 rfl (by omega) (by simp)
 rw [←vread_take b hb 10 0 0 (by omega) (by omega)]
 exact this
end Go.Proofs.YthggdomocichdaaGreatDoor.Var
namespace Go.Proofs.YthggdomocichdaaGreatDoor.P
open Go.RowKit Go.Proofs.YthggdomocichdaaGreatDoor.Kit Go.Proofs.YthggdomocichdaaGreatDoorW.PrintWords Go.Proofs.YthggdomocichdaaGreatDoorW.PrintLast Go.Proofs.YthggdomocichdaaGreatDoorW.PrintMore
attribute [local go_sem] awq awz aCq aCz azk azq aFz aEk
def Cu (W:World)(B:Nat)(g:Nat)(b:List Int):Prop:=
 ∃ v,W.heap[g]? = some (.cells #[v] 132 (0,0))∧B≤g∧Kd.Q (Kd.int .u8) 5 W B (fun k=>k≠g) v b
theorem cclone_f (l:List Int)(h:l.length<140737488355328):slices_Clone_byte_byte.f l=some l:=by
 unfold slices_Clone_byte_byte.f
 simp [h]
theorem New_any (w0 W:World)(A:Option Addr)(c:Nat)(b:List Int)(hB:Below w0.heap.size w0 W)(hr:Kd.C (Kd.int .u8) W A b.length b)(hc:b.length≤c)(hb:b.length<140737488355328) :
  Calls Tryz.prog 55 #[.slice A b.length c] W fun e W'=>∃ g,e=.returned (.pointer (some ⟨g,0,none⟩))∧Cu W' w0.heap.size g b∧W.heap.size≤g∧Below w0.heap.size w0 W'∧Below W.heap.size W W':=by
 have HR:=Qz.k hr
 have HCC:=Qz.k hc
 have HC:=Qz.k (cclone_f b hb)
 have HB0:=Qz.k hB
 clear hr hb hc hB
 go_enter Tryz.func55,Tryz.ntmps55
 go_wp2_with (go_at_call 22;refine(slices_Clone_byte_byte.calls _ _ b b _ HR.out HCC.out HC.out).mono ?_;rintro e w1 ⟨v1,rfl,ho,hb⟩;have HO:=Qz.k ho;have HB:=Qz.k hb;clear ho hb;obtain⟨A9,q9,e9⟩:=Kd.afz HO.out;subst e9)
 go_ret
 exact⟨_,rfl,⟨_,akz _ _,Nat.le_trans HB0.out.size HB.out.size,Kd.Q_of_R (Kd.akq (Kd.R_mono (Kd.axz (Kd.aiq HO.out HB0.out.size)) (fun k hk=>by have:=hk.2.2.1;omega)) _)⟩,HB.out.size,aaq (aaz HB0.out HB.out) _,aaq HB.out _⟩
theorem aZk (W:World)(A:Option Addr)(n c:Nat)(g:Nat)(hc:W.cell? ⟨g,0,none⟩=some (.slice A n c)):Calls Tryz.prog 99 #[.pointer (some ⟨g,0,none⟩)] W fun e W'=>e=.returned (.int .i64 (n:Int))∧W=W':=by
 go_enter Tryz.func99,Tryz.ntmps99
 go_wp2
 go_ret
 exact⟨rfl,rfl⟩
theorem bpq (w0 W:World)(g:Nat)(b:List Int)(n:Nat)(h:Cu W w0.heap.size g b)(hB:Below w0.heap.size w0 W)(hn:n≤b.length)(hb:b.length<140737488355328) :
  Calls Tryz.prog 100 #[.pointer (some ⟨g,0,none⟩),.int .i64 (n:Int)] W fun e W'=>∃ A c,e=.returned (.slice A n c)∧Kd.R (Kd.int .u8) 5 W' W.heap.size (fun _=>True) (.slice A n c) (b.take n)∧Cu W' w0.heap.size g (b.drop n)∧Below w0.heap.size w0 W'∧Kept W W' (fun k=>k=g):=by
 obtain⟨v,hg,hBg,hQ⟩:=h
 obtain⟨A,c,e,hlc⟩:=Kd.Q_slice hQ
 subst e
 have hc:=cell_of_one hg
 have hf:=free_of_one hg
 have HC:=Qz.k (cclone_f (b.take n) (by rw [List.length_take];omega))
 obtain⟨i0,hi,_,hsz,_⟩:=info_parts info5
 have hcut:=cut_to (P:=Tryz.prog) 27 5 .i64 Tryz.underlying27 hi A b.length c (n:Int) (by omega) (by omega) hlc
 have hcut2:=bEq (P:=Tryz.prog) 27 5 .i64 Tryz.underlying27 hi 1 hsz A b.length c (n:Int) (by omega) (by omega)
 rw [Int.toNat_natCast]at hcut hcut2
 have hr:=Kd.C_take (m:=n) (Kd.Q_reads' hQ).2.2 hn
 have hl:(b.take n).length=n:=by
  rw [List.length_take]
  omega
 obtain⟨tb,htb⟩:∃ tb,tb=b.take n:=⟨_,rfl⟩
 rw [←htb]at hr hl HC
 rw [hl]at hr
 have hq:=Kd.Q_drop (k:=n) hQ hn
 have hl2:(b.drop n).length=b.length-n:=List.length_drop
 obtain⟨A2,hA2⟩:∃ A2,A2=(if c=n then A else A.map (·.add (n*1))):=⟨_,rfl⟩
 obtain⟨c2,hc2⟩:∃ c2,c2=c-n:=⟨_,rfl⟩
 obtain⟨m2,hm2⟩:∃ m2,m2=b.length-n:=⟨_,rfl⟩
 rw [←hA2,←hc2,←hm2]at hcut2
 replace hq:Kd.Q (Kd.int .u8) 5 W w0.heap.size (fun k=>k≠g) (.slice A2 m2 c2) (b.drop n):=by
  rw [hA2,hc2,hm2]
  exact hq
 have HR:=Qz.k hr
 have HQ:=Qz.k hq
 have HG:=Qz.k hg
 have HL:=Qz.k hl
 have HB:=Qz.k hB
 have HNC:=Qz.k (Nat.le_trans hn hlc)
 have hgl:g<W.heap.size:=lt_of_block hg
 rw [←htb]
 clear hr hq hg hl hB hn hb hQ hlc hi hsz hl2 hA2 hc2 hm2 htb
 go_enter Tryz.func100,Tryz.ntmps100
 go_wp2_with (go_at_call 22;have hcl:=slices_Clone_byte_byte.calls A c tb tb W (by rw [HL.out];exact HR.out) (by rw [HL.out];exact HNC.out) HC.out;rw [HL.out]at hcl;refine hcl.mono ?_;rintro e w1 ⟨v1,rfl,ho,hb⟩;have HO:=Qz.k ho;have HB1:=Qz.k hb;clear ho hb hcl;obtain⟨A9,q9,e9⟩:=Kd.afz HO.out;rw [HL.out]at e9;subst e9;have HG1:=Qz.k (agz HG.out HB1.out);have hc1:=cell_of_one HG1.out;have hf1:=free_of_one HG1.out)
 go_ret
 refine⟨A9,q9,rfl,?_,⟨_,anq HG1.out 0 _ rfl,hBg,Kd.Q_far (Kd.Q_below HQ.out HB1.out) (fun k hk=>hk) _⟩,adq (aaz HB.out HB1.out) hBg,?_⟩
 ·exact Kd.R_mono (Kd.aQq (ok:=fun k=>W.heap.size≤k) (Kd.R_mono (Kd.axz HO.out) (fun k hk=>hk.2.1)) (fun k (hk:W.heap.size≤k) e=>absurd hgl (Nat.not_lt.mpr (Nat.le_trans hk (Nat.le_of_eq e)))) _) (fun _ _=>trivial)
 ·exact Kept.setCell (S:=fun k=>k=g) ((Kept.refl W _).below HB1.out) (.inl rfl) _
end Go.Proofs.YthggdomocichdaaGreatDoor.P
namespace Go.Proofs.YthggdomocichdaaGreatDoor.P
open Go.RowKit Go.Proofs.YthggdomocichdaaGreatDoor.Kit Go.Proofs.YthggdomocichdaaGreatDoor.Var Go.Proofs.YthggdomocichdaaGreatDoorW.PrintWords Go.Proofs.YthggdomocichdaaGreatDoorW.PrintLast Go.Proofs.YthggdomocichdaaGreatDoorW.PrintMore
attribute [local go_sem] awq awz aCq aCz azk azq aFz aEk
def aAk (b:List Int)(n:Int):List Int×List Int×Int:=if n<0 then([],b,1)else if(b.length:Int)<n then([],b,2)else(b.take n.toNat,b.drop n.toNat,0)
def be (l:List Int)(v:Int):Int:=l.foldl (fun v x=>v*256+x) v
def a8q (b:List Int)(n:Int):Int×List Int×Int:=if 8<n then(0,b,1)else(be (aAk b n).1 0,(aAk b n).2.1,(aAk b n).2.2)
def a6q (b:List Int):Int×List Int×Int:=((aAz b 0 0).1,b.drop (aAz b 0 0).2.1.toNat,(aAz b 0 0).2.2)
def bvz (b:List Int)(most:Int):List Int×List Int×Int:=
 if most<0 then([],b,1)else if(aAz b 0 0).2.2≠0 then([],b,(aAz b 0 0).2.2)else if most<(aAz b 0 0).1 then([],b,4)
 else if(b.length:Int)-(aAz b 0 0).2.1<(aAz b 0 0).1 then([],b,2)
 else((b.drop (aAz b 0 0).2.1.toNat).take (aAz b 0 0).1.toNat,(b.drop (aAz b 0 0).2.1.toNat).drop (aAz b 0 0).1.toNat,0)
def CuP (w0 W W':World)(g:Nat)(b:List Int):Prop:=Cu W' w0.heap.size g b∧Below w0.heap.size w0 W'∧Kept W W' (fun k=>k=g)
theorem CuP.drew {w0 W W':World}{g:Nat}{b:List Int}(h:Cu W w0.heap.size g b)(hB:Below w0.heap.size w0 W)(hd:Drawn0 W W'):CuP w0 W W' g b:=by
 obtain⟨n,rfl⟩:=hd.out
 obtain⟨v,hg,hb,hq⟩:=h
 exact⟨⟨v,aoq hg n,hb,Kd.Q_drewN hq n⟩,adz hB n,Kept.drewN (Kept.refl W _) n⟩
theorem CuP.below {w0 W W':World}{g:Nat}{b:List Int}(h:Cu W w0.heap.size g b)(hB:Below w0.heap.size w0 W)(hd:Below W.heap.size W W'):CuP w0 W W' g b:=by
 obtain⟨v,hg,hb,hq⟩:=h
 exact⟨⟨v,agz hg hd,hb,Kd.Q_below hq hd⟩,aaz hB hd,(Kept.refl W _).below hd⟩
theorem Cu.cell {W:World}{B g:Nat}{b:List Int}(h:Cu W B g b):∃ A c,W.cell? ⟨g,0,none⟩=some (.slice A b.length c)∧Kd.C (Kd.int .u8) W A b.length b∧b.length≤c:=by
 obtain⟨v,hg,hb,hq⟩:=h
 obtain⟨A,c,e,hlc⟩:=Kd.Q_slice hq
 subst e
 exact⟨A,c,cell_of_one hg,(Kd.Q_reads' hq).2.2,hlc⟩
theorem Bytes_any (w0 W:World)(g:Nat)(b:List Int)(n:Int)(h:Cu W w0.heap.size g b)(hB:Below w0.heap.size w0 W)(hb:b.length<140737488355328) :
  Calls Tryz.prog 58 #[.pointer (some ⟨g,0,none⟩),.int .i64 n] W fun e W'=>∃ v0,e=.returned (.tuple #[v0,.int .i64 (aAk b n).2.2])∧Kd.R (Kd.int .u8) 5 W' W.heap.size (fun _=>True) v0 (aAk b n).1∧CuP w0 W W' g (aAk b n).2.1:=by
 obtain⟨A,c,hc,hr,hlc⟩:=h.cell
 have HH:=Qz.k h
 have HB:=Qz.k hB
 by_cases c0:n<0
 ·have e:aAk b n=([],b,1):=by
   unfold aAk
   rw [if_pos c0]
  rw [e]
  have c1:decide (n<0)=true:=decide_eq_true c0
  clear h hB hb hr hlc e c0
  go_enter Tryz.func58,Tryz.ntmps58
  go_wp2
  repeat(go_quiet (fail);try go_wp2)
  go_ret2
  exact⟨_,rfl,Kd.ayz _ _ _ _ _,CuP.drew HH.out HB.out (by repeat(first|exact Drawn0.refl _|apply Drawn0.step))⟩
 ·by_cases c2:(b.length:Int)<n
  ·have e:aAk b n=([],b,2):=by
    unfold aAk
    rw [if_neg c0,if_pos c2]
   rw [e]
   have c1:decide (n<0)=false:=decide_eq_false c0
   have c3:decide ((b.length:Int)<n)=true:=decide_eq_true c2
   clear h hB hb hr hlc e c0 c2
   go_enter Tryz.func58,Tryz.ntmps58
   go_wp2_with (go_at_call 99;refine(aZk _ A b.length c g hc).mono ?_;rintro e w1 ⟨rfl,rfl⟩)
   go_ret2
   exact⟨_,rfl,Kd.ayz _ _ _ _ _,CuP.drew HH.out HB.out (by repeat(first|exact Drawn0.refl _|apply Drawn0.step))⟩
  ·obtain⟨m,rfl⟩:=Int.eq_ofNat_of_zero_le (Int.not_lt.mp c0)
   have e:aAk b (m:Int)=(b.take m,b.drop m,0):=by
    unfold aAk
    rw [if_neg c0,if_neg c2,Int.toNat_natCast]
   rw [e]
   have hcall:=bpq w0 W g b m h hB (by omega) hb
   have HCALL:=Qz.k hcall
   have c1:decide ((m:Int)<0)=false:=decide_eq_false c0
   have c3:decide ((b.length:Int)<(m:Int))=false:=decide_eq_false c2
   have c4:decide (b.length<m)=false:=decide_eq_false (by omega)
   clear h hB hb hr hlc e c0 c2 hcall
   go_enter Tryz.func58,Tryz.ntmps58
   go_wp2_with (first|(go_at_call 99;refine(aZk _ A b.length c g hc).mono ?_;rintro e w1 ⟨rfl,rfl⟩)|(go_at_call 100;refine HCALL.out.mono ?_;rintro e w1 ⟨A9,q9,rfl,ho,hcu,hbl,hk⟩;have HO:=Qz.k ho;have HP:=Qz.k (show CuP w0 W w1 g (b.drop m)from⟨hcu,hbl,hk⟩);clear ho hcu hbl hk))
   go_ret2
   exact⟨_,rfl,HO.out,HP.out⟩
theorem End_any (w0 W:World)(g:Nat)(b:List Int)(h:Cu W w0.heap.size g b):Calls Tryz.prog 60 #[.pointer (some ⟨g,0,none⟩)] W fun e W'=>e=.returned (.int .i64 (if 0<b.length then 3 else 0))∧Drawn0 W W':=by
 obtain⟨A,c,hc,hr,hlc⟩:=h.cell
 clear h hr hlc
 by_cases c0:0<b.length
 ·rw [if_pos c0]
  have c1:decide (0<(b.length:Int))=true:=decide_eq_true (by omega)
  have c2:decide (0<b.length)=true:=decide_eq_true c0
  go_enter Tryz.func60,Tryz.ntmps60
  go_wp2_with (go_at_call 99;refine(aZk _ A b.length c g hc).mono ?_;rintro e w1 ⟨rfl,rfl⟩)
  repeat(go_quiet (fail);try go_wp2)
  go_ret
  exact⟨rfl,by repeat(first|exact Drawn0.refl _|apply Drawn0.step)⟩
 ·rw [if_neg c0]
  have c1:decide (0<(b.length:Int))=false:=decide_eq_false (by omega)
  have c2:decide (0<b.length)=false:=decide_eq_false c0
  go_enter Tryz.func60,Tryz.ntmps60
  go_wp2_with (go_at_call 99;refine(aZk _ A b.length c g hc).mono ?_;rintro e w1 ⟨rfl,rfl⟩)
  repeat(go_quiet (fail);try go_wp2)
  go_ret
  exact⟨rfl,by repeat(first|exact Drawn0.refl _|apply Drawn0.step)⟩
theorem vread_n (b:List Int)(hb:Bytes b):0≤(aAz b 0 0).2.1∧(aAz b 0 0).2.1.toNat≤b.length∧0≤(aAz b 0 0).1∧(aAz b 0 0).1<18446744073709551616:=by
 rcases vread_err b 0 0 with h|⟨h1,h2,h3⟩
 ·obtain⟨u,e1,e2,e3,e4,e5,e6⟩:=vread_only b 0 0 _ _ hb (by omega) (Prod.ext_iff.mpr ⟨rfl,Prod.ext_iff.mpr ⟨rfl,h⟩⟩)
  replace e1:(aAz b 0 0).fst=0+(u:Int)*2 ^ (7*0):=e1
  replace e2:(aAz b 0 0).snd.fst=((0+(vn u).length:Nat):Int):=e2
  rw [e1,e2]
  rw [show 7*0=0 from rfl,Int.pow_zero]at e6 ⊢
  clear e1 e2 e4 e5
  refine⟨by omega,by omega,by omega,by omega⟩
 ·rw [h1,h2]
  simp
theorem Varint_any (w0 W:World)(g:Nat)(b:List Int)(h:Cu W w0.heap.size g b)(hB:Below w0.heap.size w0 W)(hb:b.length<140737488355328)(hby:Bytes b) :
  Calls Tryz.prog 120 #[.pointer (some ⟨g,0,none⟩)] W fun e W'=>e=.returned (.tuple #[.int .u64 (a6q b).1,.int .i64 (a6q b).2.2])∧CuP w0 W W' g (a6q b).2.1:=by
 obtain⟨A,c,hc,hr,hlc⟩:=h.cell
 obtain⟨h0,h1,h2,h3⟩:=vread_n b hby
 obtain⟨k,hk⟩:=(Read_ev b hby hb).get
 unfold a6q
 generalize hx:aAz b 0 0=x at h0 h1 h2 h3 hk ⊢
 obtain⟨x1,x2,x3⟩:=x
 obtain⟨m,rfl⟩:=Int.eq_ofNat_of_zero_le h0
 simp only [Int.toNat_natCast]at h1 ⊢
 have HREAD:=Qz.k (varint_Read.calls k A c b _ _ _ W hr hlc hk)
 have HH:=Qz.k h
 have HB:=Qz.k hB
 have HM:=Qz.k h1
 have HL:=Qz.k hb
 clear h hB hb hr hlc h0 h1 h2 h3 hk hx hby
 go_enter Tryz.func120,Tryz.ntmps120
 go_wp2_with (first|(go_at_call 98;refine HREAD.out.mono ?_;rintro e w1 ⟨rfl,hb1⟩;have hcu1:=CuP.below HH.out HB.out hb1;have HP:=Qz.k hcu1;clear hb1 hcu1)|(go_at_call 100;refine(bpq w0 _ g b m HP.out.1 HP.out.2.1 HM.out HL.out).mono ?_;rintro e w2 ⟨A9,q9,rfl,ho,hcu,hbl,hk⟩;have HP2:=Qz.k (show CuP w0 W w2 g (b.drop m)from⟨hcu,hbl,Kept.then_ HP.out.2.2 hk (fun k h=>.inl h)⟩);clear ho hcu hbl hk))
 go_ret2
 exact⟨rfl,HP2.out⟩
theorem be_step (v x:Int)(t:List Int)(k:Nat)(hk:k+1+t.length≤8)(h0:0≤v)(h1:v<256 ^ k)(hx:0≤x∧x<256):Go.bits .or .u64 (IntKind.u64.wrap (v*256)) (IntKind.u64.wrap x)=v*256+x∧0≤v*256+x∧v*256+x<256 ^ (k+1):=by
 have hp:(256:Int) ^ k≤72057594037927936:=by
  have key:∀ k:Fin 8,(256:Int) ^ (k:Nat)≤72057594037927936:=by decide
  exact key ⟨k,by omega⟩
 have h2:v<72057594037927936:=by omega
 rw [aOq (v*256) (by omega) (by omega),aOq x hx.1 (by omega),Int.pow_succ]
 refine⟨?_,by omega,by omega⟩
 exact bmq 8 x (v*256) hx.1 (by omega) (by omega) (by omega) (by omega) (by omega)
theorem cBytes_bytes (b:List Int)(n:Int)(hb:Bytes b):Bytes (aAk b n).1∧Bytes (aAk b n).2.1:=by
 unfold aAk
 split
 ·exact⟨Bytes.nil,hb⟩
 ·split
  ·exact⟨Bytes.nil,hb⟩
  ·exact⟨hb.take _,hb.drop _⟩
theorem cBytes_len (b:List Int)(n:Int):((aAk b n).1.length:Int)≤n∨(aAk b n).1.length=0:=by
 unfold aAk
 split
 ·right;rfl
 ·split
  ·right;rfl
  ·left
   simp only [List.length_take]
   omega
theorem Fixed_any (w0 W:World)(g:Nat)(b:List Int)(n:Int)(h:Cu W w0.heap.size g b)(hB:Below w0.heap.size w0 W)(hb:b.length<140737488355328)(hby:Bytes b) :
  Calls Tryz.prog 105 #[.pointer (some ⟨g,0,none⟩),.int .i64 n] W fun e W'=>e=.returned (.tuple #[.int .u64 (a8q b n).1,.int .i64 (a8q b n).2.2])∧CuP w0 W W' g (a8q b n).2.1:=by
 by_cases c0:8<n
 ·have e:a8q b n=(0,b,1):=by
   unfold a8q
   rw [if_pos c0]
  rw [e]
  have c1:decide (8<n)=true:=decide_eq_true c0
  have HH:=Qz.k h
  have HB:=Qz.k hB
  clear h hB hb hby e c0
  go_enter Tryz.func105,Tryz.ntmps105
  go_wp2
  go_ret2
  exact⟨rfl,CuP.drew HH.out HB.out (by repeat(first|exact Drawn0.refl _|apply Drawn0.step))⟩
 ·have e:a8q b n=(be (aAk b n).1 0,(aAk b n).2.1,(aAk b n).2.2):=by
   unfold a8q
   rw [if_neg c0]
  rw [e]
  have c1:decide (8<n)=false:=decide_eq_false c0
  have hcall:=Bytes_any w0 W g b n h hB hb
  have hbt:=(cBytes_bytes b n hby).1
  have hlen:(aAk b n).1.length≤8:=by
   have:=cBytes_len b n
   omega
  generalize aAk b n=r at hcall hbt hlen ⊢
  obtain⟨x,b',er⟩:=r
  simp only at hcall hbt hlen ⊢
  have HCALL:=Qz.k hcall
  have HBT:=Qz.k hbt
  have HL8:=Qz.k hlen
  clear h hB hb hby e c0 hcall hbt hlen
  go_enter Tryz.func105,Tryz.ntmps105
  go_wp2_with (go_at_call 58;refine HCALL.out.mono ?_;rintro e w1 ⟨v0,rfl,ho,hp⟩;have HP:=Qz.k hp;have HO:=Qz.k ho;obtain⟨A,c,eq⟩:=Kd.afz ho;subst eq;clear ho hp)
  go_loopg [8,21] x.length (fun kq v8 v21 W'=>∃ (k:Nat) (v:Int),v8=.int .u64 v∧v21=.int .i64 (k:Int)∧kq=x.length-k∧k≤x.length∧Qz (0≤v∧v<256 ^ k)∧Qz (be (x.drop k) v=be x 0)∧W'=w1)
  case atStart=>exact⟨0,0,rfl,rfl,rfl,Nat.zero_le _,⟨by decide⟩,⟨rfl⟩,rfl⟩
  case round=>
   obtain⟨k,v,rfl,rfl,rfl,hk,HV,HE,rfl⟩:=hrel
   by_cases hlt:k<x.length
   ·have c3:decide ((k:Int)<(x.length:Int))=true:=decide_eq_true (by omega)
    have c4:decide (k<x.length)=true:=decide_eq_true hlt
    have ho:=HO.out
    obtain⟨q,q2,eq,qb,ql,qc,hq⟩:=Kd.bjz ho (by omega)
    injection eq with e1 e2 e3
    subst e1 e3
    obtain⟨x2,f2⟩:=Kd.aUq 0 ho (k:Int) (by omega) (by omega)
    rw [Int.toNat_natCast]at x2
    clear ho f2 hq e2
    have i1:(0:Int)≤(k:Int):=by omega
    have i2:(k:Int)<(x.length:Int):=by omega
    go_wp2
    go_roundg (x.length-(k+1))
    case measure=>exact(by clear i1 i2;omega)
    case rel=>
     have hx:rdOf 0 x (k:Int)=x.getD k 0:=rfl
     have hd:x.drop k=x.getD k 0 :: x.drop (k+1):=by
      rw [List.getD_eq_getElem?_getD,List.getElem?_eq_getElem hlt,List.drop_eq_getElem_cons hlt]
      rfl
     obtain⟨e1,e2,e3⟩:=be_step v (x.getD k 0) (x.drop (k+1)) k (by have:=HL8.out;rw [List.length_drop];omega) HV.out.1 HV.out.2 (HBT.out _ (by rw [List.getD_eq_getElem?_getD,List.getElem?_eq_getElem hlt];exact List.getElem_mem hlt))
     have e4:wrap64 ((k:Int)+1)=((k+1:Nat):Int):=by
      have:=HL8.out
      rw [agq (by omega) (by omega)]
      rfl
     clear i1 i2
     refine⟨k+1,v*256+x.getD k 0,by rw [hx,e1],by rw [e4],rfl,hlt,⟨e2,e3⟩,⟨?_⟩,rfl⟩
     rw [←HE.out,hd]
     rfl
   ·have c3:decide ((k:Int)<(x.length:Int))=false:=decide_eq_false (by omega)
    have c4:decide (k<x.length)=false:=decide_eq_false hlt
    go_wp2
    go_ret2
    have he:=HE.out
    rw [show x.drop k=[]from by rw [List.drop_eq_nil_iff];omega]at he
    rw [←he]
    exact⟨rfl,HP.out⟩
theorem block_facts (l m u:Nat)(h1:m≤l)(hb:l<140737488355328):wrap64 ((l:Int)-(m:Int))=((l-m:Nat):Int)∧IntKind.u64.wrap ((l-m:Nat):Int)=((l-m:Nat):Int)∧(¬ ((l:Int)-(m:Int)<(u:Int))→IntKind.i64.wrap (u:Int)=(u:Int)):=by
 obtain⟨d,hd⟩:∃ d:Nat,d=l-m:=⟨_,rfl⟩
 have hdl:d≤l:=by omega
 have e:(l:Int)-(m:Int)=(d:Int):=by omega
 rw [←hd,e]
 have p0:(0:Int)≤(d:Int):=by omega
 have p1:(d:Int)<140737488355328:=by omega
 clear hd e hdl h1
 refine⟨agq (by omega) (by omega),aOq _ p0 (by omega),fun h=>?_⟩
 have q1:(u:Int)<140737488355328:=by omega
 exact(abq _).trans (agq (by omega) (by omega))
theorem Block_any (w0 W:World)(g:Nat)(b:List Int)(most:Int)(h:Cu W w0.heap.size g b)(hB:Below w0.heap.size w0 W)(hb:b.length<140737488355328)(hby:Bytes b)(hmo:most≤9223372036854775807) :
  Calls Tryz.prog 56 #[.pointer (some ⟨g,0,none⟩),.int .i64 most] W fun e W'=>∃ v0,e=.returned (.tuple #[v0,.int .i64 (bvz b most).2.2])∧Kd.R (Kd.int .u8) 5 W' W.heap.size (fun _=>True) v0 (bvz b most).1∧CuP w0 W W' g (bvz b most).2.1:=by
 obtain⟨A,c,hc,hr,hlc⟩:=h.cell
 obtain⟨h0,h1,h2,h3⟩:=vread_n b hby
 obtain⟨k,hk⟩:=(Read_ev b hby hb).get
 unfold bvz
 generalize hx:aAz b 0 0=x at h0 h1 h2 h3 hk ⊢
 obtain⟨x1,x2,x3⟩:=x
 obtain⟨m,rfl⟩:=Int.eq_ofNat_of_zero_le h0
 obtain⟨u,rfl⟩:=Int.eq_ofNat_of_zero_le h2
 simp only [Int.toNat_natCast]at h1 ⊢
 have HREAD:=Qz.k (varint_Read.calls k A c b _ _ _ W hr hlc hk)
 have HH:=Qz.k h
 have HB:=Qz.k hB
 have HM:=Qz.k h1
 have HL:=Qz.k hb
 clear h hB hr hlc hk hx hby h0
 by_cases c0:most<0
 ·rw [if_pos c0]
  have c1:decide (most<0)=true:=decide_eq_true c0
  clear c0 hmo h1 h2 h3 hb
  go_enter Tryz.func56,Tryz.ntmps56
  go_wp2
  repeat(go_quiet (fail);try go_wp2)
  go_ret2
  exact⟨_,rfl,Kd.ayz _ _ _ _ _,CuP.drew HH.out HB.out (by repeat(first|exact Drawn0.refl _|apply Drawn0.step))⟩
 ·rw [if_neg c0]
  have c1:decide (most<0)=false:=decide_eq_false c0
  by_cases ce:x3≠0
  ·rw [if_pos ce]
   have c2:(x3 != 0)=true:=by simpa using ce
   clear c0 hmo h1 h2 h3 hb ce
   go_enter Tryz.func56,Tryz.ntmps56
   go_wp2_with (first|(go_at_call 98;refine HREAD.out.mono ?_;rintro e w1 ⟨rfl,hb1⟩;have hcu1:=CuP.below HH.out HB.out hb1;have HP:=Qz.k hcu1;obtain⟨A1,q1,hc1,hr1,hl1⟩:=hcu1.1.cell;clear hb1 hcu1 hr1 hl1)|(go_at_call 99;refine(aZk _ A1 b.length q1 g hc1).mono ?_;rintro e w2 ⟨rfl,rfl⟩))
   repeat(go_quiet (fail);try go_wp2)
   go_ret2
   exact⟨_,rfl,Kd.ayz _ _ _ _ _,HP.out⟩
  ·rw [if_neg ce]
   have c2:(x3 != 0)=false:=by simpa using ce
   have hx3:x3=0:=by simpa using ce
   subst hx3
   have w1:IntKind.u64.wrap most=most:=aOq most (by omega) (by omega)
   by_cases cm:most<(u:Int)
   ·rw [if_pos cm]
    have c3:decide (most<(u:Int))=true:=decide_eq_true cm
    clear c0 hmo h1 h2 h3 hb ce cm
    go_enter Tryz.func56,Tryz.ntmps56
    go_wp2_with (first|(go_at_call 98;refine HREAD.out.mono ?_;rintro e w1 ⟨rfl,hb1⟩;have hcu1:=CuP.below HH.out HB.out hb1;have HP:=Qz.k hcu1;obtain⟨A1,q1,hc1,hr1,hl1⟩:=hcu1.1.cell;clear hb1 hcu1 hr1 hl1)|(go_at_call 99;refine(aZk _ A1 b.length q1 g hc1).mono ?_;rintro e w2 ⟨rfl,rfl⟩))
    repeat(go_quiet (fail);try go_wp2)
    go_ret2
    exact⟨_,rfl,Kd.ayz _ _ _ _ _,HP.out⟩
   ·rw [if_neg cm]
    have c3:decide (most<(u:Int))=false:=decide_eq_false cm
    obtain⟨w4,w5,w6⟩:=block_facts b.length m u h1 hb
    by_cases cs:(b.length:Int)-(m:Int)<(u:Int)
    ·rw [if_pos cs]
     have c5:decide (((b.length-m:Nat):Int)<(u:Int))=true:=decide_eq_true (by omega)
     have c6:decide (b.length-m<u)=true:=decide_eq_true (by omega)
     clear c0 hmo h1 h2 h3 hb ce cm cs w6
     go_enter Tryz.func56,Tryz.ntmps56
     go_wp2_with (first|(go_at_call 98;refine HREAD.out.mono ?_;rintro e w1 ⟨rfl,hb1⟩;have hcu1:=CuP.below HH.out HB.out hb1;have HP:=Qz.k hcu1;obtain⟨A1,q1,hc1,hr1,hl1⟩:=hcu1.1.cell;clear hb1 hcu1 hr1 hl1)|(go_at_call 99;refine(aZk _ A1 b.length q1 g hc1).mono ?_;rintro e w2 ⟨rfl,rfl⟩))
     repeat(go_quiet (fail);try go_wp2)
     go_ret2
     exact⟨_,rfl,Kd.ayz _ _ _ _ _,HP.out⟩
    ·rw [if_neg cs]
     have c5:decide (((b.length-m:Nat):Int)<(u:Int))=false:=decide_eq_false (by omega)
     have c6:decide (b.length-m<u)=false:=decide_eq_false (by omega)
     replace w6:=w6 cs
     have HU:=Qz.k (show u≤(b.drop m).length by rw [List.length_drop];omega)
     have HL2:=Qz.k (show(b.drop m).length<140737488355328 by rw [List.length_drop];omega)
     clear c0 hmo h1 h2 h3 hb ce cm cs
     go_enter Tryz.func56,Tryz.ntmps56
     go_wp2_with (first|(go_at_call 98;refine HREAD.out.mono ?_;rintro e w1 ⟨rfl,hb1⟩;have hcu1:=CuP.below HH.out HB.out hb1;have HP:=Qz.k hcu1;obtain⟨A1,q1,hc1,hr1,hl1⟩:=hcu1.1.cell;clear hb1 hcu1 hr1 hl1)|(go_at_call 99;refine(aZk _ A1 b.length q1 g hc1).mono ?_;rintro e w2 ⟨rfl,rfl⟩)|(go_at_call 100;first|(refine(bpq w0 _ g b m HP.out.1 HP.out.2.1 HM.out HL.out).mono ?_;rintro e w2 ⟨A8,q8,rfl,ho,hcu,hbl,hk⟩;have HP2:=Qz.k (show CuP w0 W w2 g (b.drop m)from⟨hcu,hbl,Kept.then_ HP.out.2.2 hk (fun k h=>.inl h)⟩);clear HP ho hcu hbl hk)|(refine(bpq w0 _ g (b.drop m) u HP2.out.1 HP2.out.2.1 HU.out HL2.out).mono ?_;rintro e w3 ⟨A9,q9,rfl,ho,hcu,hbl,hk⟩;have HP3:=Qz.k (show CuP w0 W w3 g ((b.drop m).drop u)from⟨hcu,hbl,Kept.then_ HP2.out.2.2 hk (fun k h=>.inl h)⟩);have HO:=Qz.k (Kd.aiq ho (HP2.out.2.2.1));clear ho hcu hbl hk)))
     go_ret2
     exact⟨_,rfl,HO.out,HP3.out⟩
end Go.Proofs.YthggdomocichdaaGreatDoor.P
namespace Go.Proofs.YthggdomocichdaaGreatDoor.P
open Go.RowKit Go.Proofs.YthggdomocichdaaGreatDoor.Kit Go.Proofs.YthggdomocichdaaGreatDoor.Var Go.Proofs.YthggdomocichdaaGreatDoorW.PrintWords Go.Proofs.YthggdomocichdaaGreatDoorW.PrintLast Go.Proofs.YthggdomocichdaaGreatDoorW.PrintMore
theorem Cu.grown {α : Type}{d:Kd α}{e B base g:Nat}{ok:Nat→Prop}{W W1:World}{v:Value}{xs:List α}{b:List Int}(h:Cu W B g b)(ho:d.R e W base ok v xs)(he:e≠132)(h5:∀ q,q∈5 :: (Kd.int .u8).E→q≠e)(hg:W.grownBy W1 v.ownBlock):Cu W1 B g b:=by
 obtain⟨u,hgb,hb,hq⟩:=h
 exact⟨u,by rw [hg.block g (lt_of_block hgb) (Kd.R_ne ho hgb he)];exact hgb,hb,Kd.Q_over' hq (Kd.aJz ho) h5 hg⟩
theorem Cu.below {B g:Nat}{W W1:World}{b:List Int}(h:Cu W B g b)(hb:Below W.heap.size W W1):Cu W1 B g b:=by
 obtain⟨v,hg,hbb,hq⟩:=h
 exact⟨v,agz hg hb,hbb,Kd.Q_below hq hb⟩
theorem Cu.alloc {B g:Nat}{W:World}{b:List Int}(h:Cu W B g b)(o:Obj):Cu (W.alloc o) B g b:=h.below (aaq (Below.refl _ _) o)
theorem Cu.drewN {B g:Nat}{W:World}{b:List Int}(h:Cu W B g b)(n:Nat):Cu (W.drewN n) B g b:=h.below (adz (Below.refl _ _) n)
theorem Cu.drew1 {B g:Nat}{W:World}{b:List Int}(h:Cu W B g b):Cu W.drew B g b:=h.below (aKk (Below.refl _ _))
end Go.Proofs.YthggdomocichdaaGreatDoor.P
namespace Go.Proofs.YthggdomocichdaaGreatDoor.Var
open Go.RowKit Go.Proofs.YthggdomocichdaaGreatDoor.P Go.Proofs.YthggdomocichdaaGreatDoor.Kit Go.Proofs.YthggdomocichdaaGreatDoorW.PrintWords Go.Proofs.YthggdomocichdaaGreatDoorW.PrintLast Go.Proofs.YthggdomocichdaaGreatDoorW.PrintMore
theorem vread_vn' (v:Nat)(rest:List Int)(hv:v<18446744073709551616):aAz (vn v++rest) 0 0=((v:Int),((vn v).length:Int),0):=by
 have hz:(v:Int)*2 ^ (7*0)=(v:Int):=by rw [show 7*0=0 from rfl,Int.pow_zero,Int.mul_one]
 rw [vread_vn v 0 0 rest (by omega) (by rw [hz];omega) (fun h=>absurd h (by omega)),hz]
 simp
theorem cV_vn (v:Nat)(rest:List Int)(hv:v<18446744073709551616):a6q (vn v++rest)=((v:Int),rest,0):=by
 unfold a6q
 have hz:(v:Int)*2 ^ (7*0)=(v:Int):=by rw [show 7*0=0 from rfl,Int.pow_zero,Int.mul_one]
 rw [vread_vn v 0 0 rest (by omega) (by rw [hz];omega) (fun h=>absurd h (by omega)),hz]
 simp
end Go.Proofs.YthggdomocichdaaGreatDoor.Var
