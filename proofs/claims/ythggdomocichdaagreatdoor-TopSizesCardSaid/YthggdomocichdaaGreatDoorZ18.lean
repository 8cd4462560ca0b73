/- Put together: Room, Fits, SEnc, Px7, Px8, DEnc. -/
import Derived.WalkMore
import Derived.ScopeJumps
import Derived.Test.YthggdomocichdaaGreatDoorZ16
import Derived.Test.YthggdomocichdaaGreatDoorZ17
import Derived.Test.YthggdomocichdaaGreatDoorZ19
import Derived.Maps.OwnSet
set_option maxRecDepth 100000
set_option linter.unusedVariables false
set_option linter.unusedSimpArgs false
namespace Go.Proofs.YthggdomocichdaaGreatDoor.P
open Go.RowKit Go.Proofs.YthggdomocichdaaGreatDoor.Kit Go.Proofs.YthggdomocichdaaGreatDoorW.PrintWords Go.Proofs.YthggdomocichdaaGreatDoorW.PrintLast Go.Proofs.YthggdomocichdaaGreatDoorW.PrintMore
theorem store_whole {P:Program}{ops:Array Oper}{rest:List Oper}{o:Oper}{a:Act}{Q:Exit→Act→World→Prop}{w:World}{c c':Array Value}(t:TypeId)(p x:Operand)(ho:o.op=.store t p x)(hgd:o.guard=none)(hN:o.dst=none)
  (haddr:a.eval p=.pointer (some ⟨w.heap.size,0,none⟩)) (hx:a.eval x=.agg c') (hi:(P.info? t).map (·.size)=some c'.size) (hs:c.size=c'.size) (h1:c'.all (·.oneCell')=true)
  (h:wpList P ops Q rest a (w.alloc (.cells c' t))):wpList P ops Q (o :: rest) a (w.alloc (.cells c t)):=by
 refine wpList_plain hgd fun K hK=>?_
 have hrun:=run_storeAt_new (P:=P) w t c c' hi hs h1
 unfold Oper.wp execOp
 simp only [ho,haddr,hx,Sem.run_bind,Sem.run_pure,Result.andThen_ok,hrun]
 show K (a.put o.dst undef) _
 rw [hN]
 exact hK a _ h
def roomA : Array Value:=#[.int .i64 240,.int .i64 0,.int .i64 120,.int .i64 0,.int .i64 60,.int .i64 1,.int .i64 30,.int .i64 2,.int .i64 20,.int .i64 3,.int .i64 15,.int .i64 4,.int .i64 12,.int .i64 5,.int .i64 10,.int .i64 6,.int .i64 8,.int .i64 7,.int .i64 7,.int .i64 8,.int .i64 6,.int .i64 10,.int .i64 5,.int .i64 12,.int .i64 4,.int .i64 15,.int .i64 3,.int .i64 20,.int .i64 2,.int .i64 30,.int .i64 1,.int .i64 60]
theorem rooms_any (w:World):Calls Tryz.prog 293 #[] w fun e w'=>e=.returned (.agg roomA)∧w'=w.alloc (.cells roomA 282):=by
 go_enter Tryz.func293,Tryz.ntmps293
 go_upto_region 1 with(fail)
 go_wp2_with (refine store_whole (c':=roomA) 282 (.tmp 0) (.tmp 17) rfl rfl rfl rfl rfl (by kernel_rfl) rfl (by kernel_rfl) ?_)
 refine bodyPost_ret (v := .agg roomA) ?_ rfl ⟨rfl,rfl⟩
 exact results_cell_row rfl _ _ w.heap.size 282 roomA (0,0) (.array 16 281) rfl (heap_alloc_last w _) (by kernel_rfl) rfl (by kernel_rfl)
def rN (s:Int):Int:=rd [240,120,60,30,20,15,12,10,8,7,6,5,4,3,2,1] s
def rW (s:Int):Int:=rd [0,0,1,2,3,4,5,6,7,8,10,12,15,20,30,60] s
def simple_Room.f (s:Int):Option (Int×Int):=some (if s<0 then 0 else if 15<s then 0 else rN s,if s<0 then 0 else if 15<s then 0 else rW s)
theorem room_index (s:Nat)(hs:s<16)(W:World):(Instr.index 282 (.agg roomA) (.int .i64 (s:Int))).run Tryz.prog W=.ok (.agg #[.int .i64 (rN (s:Int)),.int .i64 (rW (s:Int))]) W:=by
 obtain rfl|rfl|rfl|rfl|rfl|rfl|rfl|rfl|rfl|rfl|rfl|rfl|rfl|rfl|rfl|rfl:s=0∨s=1∨s=2∨s=3∨s=4∨s=5∨s=6∨s=7∨s=8∨s=9∨s=10∨s=11∨s=12∨s=13∨s=14∨s=15:=by omega
 all_goals kernel_rfl
theorem simple_Room.calls (a0:Int)(r1:Int)(r2:Int)(w:World)(h:simple_Room.f a0=some (r1,r2)) :
  Calls Tryz.prog 240 #[.int .i64 a0] w fun e w'=>e=.returned (.tuple #[.int .i64 r1,.int .i64 r2])∧Below w.heap.size w w':=by
 unfold simple_Room.f at h
 injection h with h
 injection h with h1 h2
 subst h1 h2
 by_cases c0:a0<0
 ·rw [if_pos c0,if_pos c0]
  go_enter Tryz.func240,Tryz.ntmps240
  go_wp2
  go_ret2
  exact⟨rfl,Below.refl _ _⟩
 ·rw [if_neg c0,if_neg c0]
  by_cases c1:15<a0
  ·rw [if_pos c1,if_pos c1]
   have c2:decide (16≤a0)=true:=decide_eq_true (by omega)
   have c3:decide (a0<0)=false:=decide_eq_false c0
   go_enter Tryz.func240,Tryz.ntmps240
   go_wp2
   go_ret2
   exact⟨rfl,Below.refl _ _⟩
  ·rw [if_neg c1,if_neg c1]
   have hr:=rooms_any w
   obtain⟨s,rfl⟩:=Int.eq_ofNat_of_zero_le (show 0≤a0 by omega)
   have hix:=room_index s (by omega)
   have HR:=Qz.k hr
   have c2:decide (16≤(s:Int))=false:=decide_eq_false (by omega)
   have c3:decide (16≤s)=false:=decide_eq_false (by omega)
   clear hr c0 c1
   generalize rN (s:Int)=rn at hix ⊢
   generalize rW (s:Int)=rw at hix ⊢
   go_enter Tryz.func240,Tryz.ntmps240
   go_wp2_with (go_at_call 293;refine HR.out.mono ?_;rintro e w1 ⟨rfl,rfl⟩)
   repeat(go_quiet (fail);try go_wp2)
   go_ret2
   exact⟨rfl,by repeat(first|exact Below.refl _ _|apply adz|apply aez|apply aaq)⟩
def nn (s:Nat):Nat:=[240,120,60,30,20,15,12,10,8,7,6,5,4,3,2,1].getD s 0
def ww (s:Nat):Nat:=[0,0,1,2,3,4,5,6,7,8,10,12,15,20,30,60].getD s 0
theorem room_f (s:Nat)(hs:s<16):simple_Room.f (s:Int)=some ((nn s:Int),(ww s:Int)):=by
 have key:∀ s:Fin 16,simple_Room.f ((s:Nat):Int)=some ((nn (s:Nat):Int),(ww (s:Nat):Int)):=by decide +kernel
 exact key ⟨s,hs⟩
theorem bgq (s:Nat)(hs:s<16):1≤nn s∧nn s≤240∧ww s≤60∧nn s*ww s≤60:=by
 have key:∀ s:Fin 16,1≤nn (s:Nat)∧nn (s:Nat)≤240∧ww (s:Nat)≤60∧nn (s:Nat)*ww (s:Nat)≤60:=by decide +kernel
 exact key ⟨s,hs⟩
def fitsN (l:List Int)(w:Nat):Nat→Nat→Bool
 | 0,_=>true
 |d+1,i=>if rd l (i:Int)<2 ^ w then fitsN l w d (i+1)else false
def bnq (l:List Int)(s:Nat):Bool:=if l.length<nn s then false else fitsN l (ww s) (nn s) 0
def simple_fits.f (l:List Int)(s:Int):Option Bool:=if(∀ x∈l,0≤x∧x≤18446744073709551615)∧0≤s∧s<16∧l.length<140737488355328 then some (bnq l s.toNat)else none
theorem shr_zero (x:Int)(w:Nat)(hx:0≤x):(x/2 ^ w != 0) = !decide (x<2 ^ w):=by
 have hp:(0:Int)<2 ^ w:=Int.pow_pos (by decide)
 by_cases h:x<2 ^ w
 ·rw [Int.ediv_eq_zero_of_lt hx h,decide_eq_true h]
  rfl
 ·rw [decide_eq_false h]
  have h1:1≤x/2 ^ w:=by
   rw [Int.le_ediv_iff_mul_le hp]
   omega
  have:x/2 ^ w≠0:=by omega
  simpa using this
theorem wrap_k (k:Nat)(h:k<140737488355328):wrap64 ((k:Int)+1)=((k+1:Nat):Int):=by
 rw [agq (by omega) (by omega)]
 rfl
set_option maxHeartbeats 1000000 in
theorem simple_fits.calls (A0:Option Addr)(c0:Nat)(l:List Int)(a1:Int)(r:Bool)(w:World)(hr0:Kd.C (Kd.int .u64) w A0 l.length l)(hc0:l.length≤c0)(h:simple_fits.f l a1=some r) :
  Calls Tryz.prog 238 #[.slice A0 l.length c0,.int .i64 a1] w fun e w'=>e=.returned (.bool r)∧Below w.heap.size w w':=by
 unfold simple_fits.f at h
 split at h
 case isFalse=>cases h
 case isTrue hc=>
  injection h with h
  subst h
  obtain⟨hu,h0,h1,hl⟩:=hc
  obtain⟨s,rfl⟩:=Int.eq_ofNat_of_zero_le h0
  rw [Int.toNat_natCast]
  have hs:s<16:=by omega
  have HROOM:=Qz.k (simple_Room.calls (s:Int) _ _ w (room_f s hs))
  obtain⟨f1,f2,f3,_⟩:=bgq s hs
  unfold bnq
  generalize nn s=n at *
  generalize ww s=k at *
  by_cases hn:l.length<n
  ·rw [if_pos hn]
   have c1:decide ((l.length:Int)<(n:Int))=true:=decide_eq_true (by omega)
   have c2:decide (l.length<n)=true:=decide_eq_true hn
   clear hr0 hc0 hu h0 h1 hl hs f1 f2 f3 hn
   go_enter Tryz.func238,Tryz.ntmps238
   go_wp2_with (go_at_call 240;refine HROOM.out.mono ?_;rintro e w1 ⟨rfl,hb⟩;have HB:=Qz.k hb;clear hb)
   go_ret
   exact⟨rfl,HB.out⟩
  ·rw [if_neg hn]
   obtain⟨ad,rfl,_⟩:=Kd.asz hr0 0 (by omega) (by omega)
   have HR:=Qz.k hr0
   have HU:=Qz.k hu
   have HN:=Qz.k (show n≤l.length∧l.length≤c0∧n≤240∧k≤60∧l.length<140737488355328 from⟨by omega,hc0,f2,f3,hl⟩)
   have c1:decide ((l.length:Int)<(n:Int))=false:=decide_eq_false (by omega)
   have c2:decide (l.length<n)=false:=decide_eq_false hn
   have p1:(0≤(n:Int))=True:=eq_true (by omega)
   have p2:((n:Int)≤(c0:Int))=True:=eq_true (by omega)
   have p3:(n≤c0)=True:=eq_true (by omega)
   clear hr0 hc0 hu h0 h1 hl hs f1 f2 f3 hn
   go_enter Tryz.func238,Tryz.ntmps238
   go_wp2_with (go_at_call 240;refine HROOM.out.mono ?_;rintro e w1 ⟨rfl,hb⟩;have HB:=Qz.k hb;have HR1:=Qz.k (Kd.acz HR.out hb);clear hb)
   go_loopg [8,22] n (fun kq v8 v22 W'=>∃ i:Nat,v22=.int .i64 (i:Int)∧kq=n-i∧i≤n∧Qz (fitsN l k (n-i) i=fitsN l k n 0)∧W'=w1)
   case atStart=>exact⟨0,rfl,rfl,Nat.zero_le _,⟨rfl⟩,rfl⟩
   case round=>
    obtain⟨i,rfl,rfl,hi,HF,rfl⟩:=hrel
    by_cases hlt:i<n
    ·have c3:decide ((i:Int)<(n:Int))=true:=decide_eq_true (by omega)
     have c4:decide (i<n)=true:=decide_eq_true hlt
     obtain⟨ad2,e2,hx⟩:=Kd.asz HR1.out (i:Int) (by omega) (by have:=HN.out;omega)
     cases e2
     rw [Int.toNat_natCast]at hx
     have hmem:0≤rd l (i:Int):=(HU.out _ (aZz l (i:Int) (by omega) (by have:=HN.out;omega))).1
     have q1:(0≤(k:Int))=True:=eq_true (by omega)
     have q2:((k:Int)≤64)=True:=eq_true (by have:=HN.out;omega)
     have q3:(k≤64)=True:=eq_true (by have:=HN.out;omega)
     have hz:=shr_zero (rd l (i:Int)) k hmem
     have hw:=wrap_k i (by have:=HN.out;omega)
     have hun:=HF.out
     rw [show n-i=(n-(i+1))+1 by clear hw hz;omega,fitsN]at hun
     by_cases hb:rd l (i:Int)<2 ^ k
     ·rw [decide_eq_true hb]at hz
      rw [if_pos hb]at hun
      have HF2:=Qz.k hun
      clear hmem hb hun HF
      go_wp2
      go_roundg (n-(i+1))
      case measure=>exact(by clear hw;omega)
      case rel=>
       rw [hw]
       exact⟨i+1,rfl,rfl,hlt,HF2,rfl⟩
     ·rw [decide_eq_false hb]at hz
      rw [if_neg hb]at hun
      have HF2:=Qz.k hun
      clear hmem hb hun HF
      go_wp2
      go_ret
      exact⟨by rw [←HF2.out];rfl,HB.out⟩
    ·have c3:decide ((i:Int)<(n:Int))=false:=decide_eq_false (by omega)
     have c4:decide (i<n)=false:=decide_eq_false hlt
     have e:n-i=0:=by omega
     rw [e]at HF
     go_wp2
     go_ret
     exact⟨by rw [←HF.out];rfl,HB.out⟩
def packN (l:List Int)(w:Nat):Nat→Nat→Int→Int
 | 0,_,v=>v
 |d+1,i,v=>packN l w d (i+1) (v*2 ^ w+rd l (i:Int))
def bck (l:List Int)(s:Nat):Int:=(s:Int)*1152921504606846976+packN l (ww s) (nn s) 0 0*2 ^ (60-nn s*ww s)
def simple_pack.f (l:List Int)(s:Int):Option Int:=if(∀ x∈l,0≤x∧x≤18446744073709551615)∧0≤s∧s<16∧l.length<140737488355328∧bnq l s.toNat=true then some (bck l s.toNat)else none
theorem packN_step (l:List Int)(w:Nat)(i:Nat)(v:Int)(hv0:0≤v)(hv:v<2 ^ (i*w))(hx0:0≤rd l (i:Int))(hx:rd l (i:Int)<2 ^ w)(hw:(i+1)*w≤60) :
  Go.bits .or .u64 (IntKind.u64.wrap (v*2 ^ w)) (rd l (i:Int))=v*2 ^ w+rd l (i:Int)∧0≤v*2 ^ w+rd l (i:Int)∧v*2 ^ w+rd l (i:Int)<2 ^ ((i+1)*w):=by
 have hp:(0:Int)<2 ^ w:=Int.pow_pos (by decide)
 have e:(2:Int) ^ ((i+1)*w)=2 ^ (i*w)*2 ^ w:=by rw [Nat.add_mul,Nat.one_mul,Int.pow_add]
 have h1:(v+1)*2 ^ w≤2 ^ (i*w)*2 ^ w:=Int.mul_le_mul_of_nonneg_right (by omega) (by omega)
 have h2:(2:Int) ^ ((i+1)*w)≤2 ^ 60:=by exact_mod_cast Nat.pow_le_pow_right (by decide) hw
 have h0:0≤v*2 ^ w:=Int.mul_nonneg hv0 (by omega)
 rw [Int.add_mul,Int.one_mul]at h1
 rw [e]at h2 ⊢
 have h3:(2:Int) ^ 60=1152921504606846976:=by decide
 rw [h3]at h2
 rw [aOq _ h0 (by omega)]
 have h4:=bmq w (rd l (i:Int)) (v*2 ^ w) hx0 hx h0 (Int.mul_emod_left _ _) (by omega) (by omega)
 exact⟨h4,by omega,by omega⟩
theorem pack_last (s n w:Nat)(v:Int)(hs:s<16)(hv0:0≤v)(hv:v<2 ^ (n*w))(hw:n*w≤60):Go.bits .or .u64 (IntKind.u64.wrap ((s:Int)*1152921504606846976)) (IntKind.u64.wrap (v*2 ^ (60-n*w)))=(s:Int)*1152921504606846976+v*2 ^ (60-n*w):=by
 have hp:(0:Int)<2 ^ (60-n*w):=Int.pow_pos (by decide)
 have h1:(v+1)*2 ^ (60-n*w)≤2 ^ (n*w)*2 ^ (60-n*w):=Int.mul_le_mul_of_nonneg_right (by omega) (by omega)
 rw [←Int.pow_add,show n*w+(60-n*w)=60 by omega,Int.add_mul,Int.one_mul,show(2:Int) ^ 60=1152921504606846976 by decide]at h1
 have h0:0≤v*2 ^ (60-n*w):=Int.mul_nonneg hv0 (by omega)
 rw [aOq _ (by omega) (by omega),aOq _ h0 (by omega)]
 exact bmq 60 (v*2 ^ (60-n*w)) ((s:Int)*1152921504606846976) h0 (by omega) (by omega) (by rw [show(2:Int) ^ 60=1152921504606846976 by decide];omega) (by omega) (by omega)
theorem fitsN_rd (l:List Int)(w d:Nat):∀ i,fitsN l w d i=true→∀ j,i≤j→j<i+d→rd l (j:Int)<2 ^ w:=by
 induction d with
 |zero=>intro i _ j h1 h2;omega
 |succ d ih=>
  intro i h j h1 h2
  rw [fitsN]at h
  split at h
  ·next hx=>
   by_cases e:j=i
   ·rw [e]
    exact hx
   ·exact ih (i+1) h j (by omega) (by omega)
  ·cases h
theorem bnz {l:List Int}{s:Nat}(h:bnq l s=true):nn s≤l.length∧∀ j,j<nn s→rd l (j:Int)<2 ^ ww s:=by
 unfold bnq at h
 split at h
 ·cases h
 ·exact⟨by omega,fun j hj=>fitsN_rd l _ _ 0 h j (by omega) (by omega)⟩
set_option maxHeartbeats 1000000 in
theorem simple_pack.calls (A0:Option Addr)(c0:Nat)(l:List Int)(a1:Int)(r:Int)(w:World)(hr0:Kd.C (Kd.int .u64) w A0 l.length l)(hc0:l.length≤c0)(h:simple_pack.f l a1=some r) :
  Calls Tryz.prog 239 #[.slice A0 l.length c0,.int .i64 a1] w fun e w'=>e=.returned (.int .u64 r)∧Below w.heap.size w w':=by
 unfold simple_pack.f at h
 split at h
 case isFalse=>cases h
 case isTrue hc=>
  injection h with h
  subst h
  obtain⟨hu,h0,h1,hl,hfit⟩:=hc
  obtain⟨s,rfl⟩:=Int.eq_ofNat_of_zero_le h0
  rw [Int.toNat_natCast]at hfit ⊢
  have hs:s<16:=by omega
  have HROOM:=Qz.k (simple_Room.calls (s:Int) _ _ w (room_f s hs))
  obtain⟨f1,f2,f3,f4⟩:=bgq s hs
  obtain⟨g1,g2⟩:=bnz hfit
  unfold bck
  generalize nn s=n at *
  generalize ww s=k at *
  obtain⟨ad,rfl,_⟩:=Kd.asz hr0 0 (by omega) (by omega)
  have HR:=Qz.k hr0
  have HU:=Qz.k hu
  have HG:=Qz.k g2
  have HN:=Qz.k (show n≤l.length∧l.length≤c0∧n≤240∧k≤60∧n*k≤60∧s<16 from⟨by omega,hc0,f2,f3,f4,hs⟩)
  have p1:(0≤(n:Int))=True:=eq_true (by omega)
  have p2:((n:Int)≤(c0:Int))=True:=eq_true (by omega)
  have p3:(n≤c0)=True:=eq_true (by omega)
  clear hr0 hc0 hu h0 h1 hl hs f1 f2 f3 f4 g1 g2 hfit
  go_enter Tryz.func239,Tryz.ntmps239
  go_wp2_with (go_at_call 240;refine HROOM.out.mono ?_;rintro e w1 ⟨rfl,hb⟩;have HB:=Qz.k hb;have HR1:=Qz.k (Kd.acz HR.out hb);clear hb)
  go_loopg [7,9,19] n (fun kq v7 v9 v19 W'=>∃ (i:Nat) (v:Int),v7=.int .u64 v∧v19=.int .i64 (i:Int)∧kq=n-i∧i≤n∧Qz (0≤v∧v<2 ^ (i*k))∧Qz (packN l k (n-i) i v=packN l k n 0 0)∧W'=w1)
  case atStart=>exact⟨0,0,rfl,rfl,rfl,Nat.zero_le _,⟨by simp⟩,⟨rfl⟩,rfl⟩
  case round=>
   obtain⟨i,v,rfl,rfl,rfl,hi,HV,HF,rfl⟩:=hrel
   by_cases hlt:i<n
   ·have c3:decide ((i:Int)<(n:Int))=true:=decide_eq_true (by omega)
    have c4:decide (i<n)=true:=decide_eq_true hlt
    obtain⟨ad2,e2,hx⟩:=Kd.asz HR1.out (i:Int) (by omega) (by have:=HN.out;omega)
    cases e2
    rw [Int.toNat_natCast]at hx
    have hmem:0≤rd l (i:Int):=(HU.out _ (aZz l (i:Int) (by omega) (by have:=HN.out;omega))).1
    have hik:(i+1)*k≤60:=Nat.le_trans (Nat.mul_le_mul_right k hlt) HN.out.2.2.2.2.1
    have HSTEP:=Qz.k (packN_step l k i v HV.out.1 HV.out.2 hmem (HG.out i hlt) hik)
    have q1:(0≤(k:Int))=True:=eq_true (by omega)
    have q2:((k:Int)≤64)=True:=eq_true (by have:=HN.out;omega)
    have q3:(k≤64)=True:=eq_true (by have:=HN.out;omega)
    have hw:=wrap_k i (by have:=HN.out;omega)
    have hun:=HF.out
    rw [show n-i=(n-(i+1))+1 by clear hw;omega,packN]at hun
    have HF2:=Qz.k hun
    clear hmem hik hun HF
    go_wp2
    go_roundg (n-(i+1))
    case measure=>exact(by clear hw;omega)
    case rel=>
     rw [hw,HSTEP.out.1]
     exact⟨i+1,_,rfl,rfl,rfl,hlt,⟨HSTEP.out.2⟩,HF2,rfl⟩
   ·have c3:decide ((i:Int)<(n:Int))=false:=decide_eq_false (by omega)
    have c4:decide (i<n)=false:=decide_eq_false hlt
    have e:n-i=0:=by omega
    have e3:i=n:=by omega
    rw [e]at HF
    subst e3
    have hfv:v=packN l k i 0 0:=HF.out
    have HL:=Qz.k (pack_last s i k v HN.out.2.2.2.2.2 HV.out.1 HV.out.2 HN.out.2.2.2.2.1)
    obtain⟨m,hm⟩:∃ m:Nat,m=60-i*k:=⟨_,rfl⟩
    have m1:wrap64 ((i:Int)*(k:Int))=(i:Int)*(k:Int):=by
     have h1:=HN.out.2.2.2.2.1
     have h2:(i:Int)*(k:Int)=((i*k:Nat):Int):=by simp
     rw [h2]
     exact agq (by omega) (by omega)
    have m2:wrap64 (60-(i:Int)*(k:Int))=(m:Int):=by
     have h1:=HN.out.2.2.2.2.1
     have h2:(i:Int)*(k:Int)=((i*k:Nat):Int):=by simp
     rw [h2,agq (by omega) (by omega)]
     omega
    have m3:(m≤64)=True:=eq_true (by omega)
    have m4:((m:Int)≤64)=True:=eq_true (by omega)
    rw [←hm]at HL
    have HFV:=Qz.k hfv
    have HM:=Qz.k hm
    have hws:IntKind.u64.wrap (s:Int)=(s:Int):=by
     have:=HN.out.2.2.2.2.2
     exact aOq _ (by omega) (by omega)
    clear hfv hm
    go_wp2
    go_ret
    exact⟨by rw [←HFV.out,←HM.out,←HL.out];rfl,HB.out⟩
end Go.Proofs.YthggdomocichdaaGreatDoor.P
namespace Go.Proofs.YthggdomocichdaaGreatDoor.P
open Go.RowKit Go.Proofs.YthggdomocichdaaGreatDoor.Kit Go.Proofs.YthggdomocichdaaGreatDoor.Var Go.Proofs.YthggdomocichdaaGreatDoorW.PrintWords Go.Proofs.YthggdomocichdaaGreatDoorW.PrintLast Go.Proofs.YthggdomocichdaaGreatDoorW.PrintMore
attribute [local go_sem] awq awz aCq aCz azk azq aFz aEk
def a3z : Nat→Nat→List Int→Nat
 | 0,s,_=>s
 |d+1,s,l=>if bnq l s=true then s else a3z d (s+1) l
def bIk : Nat→List Int→List Int
 | 0,_=>[]
 |d+1,l=>if l=[]then []else fixB 8 (bck l (a3z 15 0 l))++bIk d (l.drop (nn (a3z 15 0 l)))
def a4z : Nat→Nat→List Int→Bool
 | 0,_,_=>true
 |d+1,i,l=>if rd l (i:Int)<2 ^ 60 then a4z d (i+1) l else false
def sEnc (l:List Int):List Int×Int:=if 65536<l.length then([],4)else if a4z l.length 0 l=true then(bIk l.length l,0)else([],1)
def simple_Encode.f (l:List Int):Option (List Int×Int):=if(∀ x∈l,0≤x∧x≤18446744073709551615)∧l.length<140737488355328 then some (sEnc l)else none
theorem small60_rd (l:List Int)(d:Nat):∀ i,a4z d i l=true→∀ j,i≤j→j<i+d→rd l (j:Int)<2 ^ 60:=by
 induction d with
 |zero=>intro i _ j h1 h2;omega
 |succ d ih=>
  intro i h j h1 h2
  rw [a4z]at h
  split at h
  ·next hx=>
   by_cases e:j=i
   ·rw [e]
    exact hx
   ·exact ih (i+1) h j (by omega) (by omega)
  ·cases h
theorem fits15 (l:List Int)(h0:0<l.length)(h:∀ x∈l,x<2 ^ 60):bnq l 15=true:=by
 unfold bnq
 rw [show nn 15=1 from rfl,show ww 15=60 from rfl,if_neg (by omega)]
 simp only [fitsN]
 rw [if_pos (h _ (aZz l _ (by omega) (by omega)))]
theorem fits_f (l:List Int)(s:Nat)(hu:∀ x∈l,0≤x∧x≤18446744073709551615)(hs:s<16)(hl:l.length<140737488355328):simple_fits.f l (s:Int)=some (bnq l s):=by
 unfold simple_fits.f
 rw [if_pos ⟨hu,by omega,by omega,hl⟩,Int.toNat_natCast]
theorem pack_f (l:List Int)(s:Nat)(hu:∀ x∈l,0≤x∧x≤18446744073709551615)(hs:s<16)(hl:l.length<140737488355328)(hf:bnq l s=true):simple_pack.f l (s:Int)=some (bck l s):=by
 unfold simple_pack.f
 rw [if_pos ⟨hu,by omega,by omega,hl,by rw [Int.toNat_natCast];exact hf⟩,Int.toNat_natCast]
theorem lt15 (l:List Int)(h0:0<l.length)(h:∀ x∈l,x<2 ^ 60)(s:Nat)(hs:s≤15)(hb:bnq l s=false):s<15:=by
 rcases Nat.lt_or_ge s 15 with h1|h1
 ·exact h1
 ·obtain rfl:s=15:=by omega
  rw [fits15 l h0 h]at hb
  cases hb
theorem found (l:List Int)(s:Nat)(hs:s≤15)(hb:bnq l s=true)(h:a3z (15-s) s l=a3z 15 0 l):a3z 15 0 l=s:=by
 rw [←h]
 rcases Nat.lt_or_ge s 15 with h1|h1
 ·rw [show 15-s=(15-(s+1))+1 by omega,a3z,if_pos hb]
 ·rw [show 15-s=0 by omega,a3z]
theorem foundF (l:List Int)(s:Nat)(hs:s<15)(hb:bnq l s=false)(h:a3z (15-s) s l=a3z 15 0 l):a3z (15-(s+1)) (s+1) l=a3z 15 0 l:=by
 rw [←h]
 have e:15-s=(15-(s+1))+1:=by omega
 rw [e,a3z,if_neg (by rw [hb];decide)]
theorem shr60 (x:Int)(hx:0≤x):(x/1152921504606846976 != 0) = !decide (x<2 ^ 60):=by
 have:=shr_zero x 60 hx
 rwa [show(2:Int) ^ 60=1152921504606846976 by decide]at this ⊢
set_option maxHeartbeats 1000000 in
theorem simple_Encode.calls (A0:Option Addr)(c0:Nat)(l0:List Int)(r1:List Int)(r2:Int)(w:World)(hr0:Kd.C (Kd.int .u64) w A0 l0.length l0)(hc0:l0.length≤c0)(h:simple_Encode.f l0=some (r1,r2)) :
  Calls Tryz.prog 193 #[.slice A0 l0.length c0] w fun e w'=>∃ v0_:Value,e=.returned (.tuple #[v0_,.int .i64 r2])∧Kd.R (Kd.int .u8) 5 w' w.heap.size (fun _=>True) v0_ r1∧Below w.heap.size w w':=by
 unfold simple_Encode.f at h
 split at h
 case isFalse=>cases h
 case isTrue hc=>
  injection h with h
  unfold sEnc at h
  obtain⟨hu,hl⟩:=hc
  by_cases h65:65536<l0.length
  ·rw [if_pos h65]at h
   injection h with h1 h2
   subst h1 h2
   have c1:decide (65536<(l0.length:Int))=true:=decide_eq_true (by omega)
   have c2:decide (65536<l0.length)=true:=decide_eq_true h65
   clear hr0 hc0 hu hl h65
   go_enter Tryz.func193,Tryz.ntmps193
   go_wp2
   go_ret2
   exact⟨_,rfl,Kd.ayz _ _ _ _ _,Below.refl _ _⟩
  ·rw [if_neg h65]at h
   have c1:decide (65536<(l0.length:Int))=false:=decide_eq_false (by omega)
   have c2:decide (65536<l0.length)=false:=decide_eq_false h65
   have H:=Qz.k h
   have HR:=Qz.k hr0
   have HU:=Qz.k hu
   have HN:=Qz.k (show l0.length≤65536∧l0.length≤c0 from⟨by omega,hc0⟩)
   clear hr0 hc0 hu hl h65 h
   go_enter Tryz.func193,Tryz.ntmps193
   go_wp2
   go_loopg [5,15] l0.length (fun kq v5 v15 W'=>∃ i:Nat,v15=.int .i64 (i:Int)∧kq=l0.length-i∧i≤l0.length∧Qz (a4z (l0.length-i) i l0=a4z l0.length 0 l0)∧w=W')
   case atStart=>exact⟨0,rfl,rfl,Nat.zero_le _,⟨rfl⟩,rfl⟩
   case round=>
    obtain⟨i,rfl,rfl,hi,HF,rfl⟩:=hrel
    by_cases hlt:i<l0.length
    ·have c3:decide ((i:Int)<(l0.length:Int))=true:=decide_eq_true (by omega)
     have c4:decide (i<l0.length)=true:=decide_eq_true hlt
     obtain⟨ad2,e2,hx⟩:=Kd.asz HR.out (i:Int) (by omega) (by omega)
     subst e2
     rw [Int.toNat_natCast]at hx
     have hmem:0≤rd l0 (i:Int):=(HU.out _ (aZz l0 (i:Int) (by omega) (by omega))).1
     have hz:=shr60 (rd l0 (i:Int)) hmem
     have hw:=wrap_k i (by have:=HN.out;omega)
     have hun:=HF.out
     rw [show l0.length-i=(l0.length-(i+1))+1 by clear hw hz;omega,a4z]at hun
     by_cases hb:rd l0 (i:Int)<2 ^ 60
     ·rw [decide_eq_true hb]at hz
      rw [if_pos hb]at hun
      have HF2:=Qz.k hun
      clear hmem hb hun HF
      go_wp2
      go_roundg (l0.length-(i+1))
      case measure=>exact(by clear hw;omega)
      case rel=>
       rw [hw]
       exact⟨i+1,rfl,rfl,hlt,HF2,rfl⟩
     ·rw [decide_eq_false hb]at hz
      rw [if_neg hb]at hun
      have HF2:=Qz.k hun
      clear hmem hb hun HF
      go_wp2
      go_ret2
      have h:=H.out
      rw [←HF2.out,if_neg (by decide)]at h
      injection h with h1 h2
      subst h1 h2
      exact⟨_,rfl,Kd.ayz _ _ _ _ _,Below.refl _ _⟩
    ·have c3:decide ((i:Int)<(l0.length:Int))=false:=decide_eq_false (by omega)
     have c4:decide (i<l0.length)=false:=decide_eq_false hlt
     have e:l0.length-i=0:=by omega
     have h:=H.out
     rw [←HF.out,e,a4z,if_pos rfl]at h
     injection h with h1 h2
     subst h1 h2
     rw [e]at HF
     have HSM:=Qz.k (show ∀ x∈l0,x<2 ^ 60 from by
      have h3:=HF.out
      rw [a4z]at h3
      intro x hx
      obtain⟨j,hj,rfl⟩:=List.getElem_of_mem hx
      have:=small60_rd l0 l0.length 0 h3.symm j (by omega) (by omega)
      rw [aUk,List.getD_eq_getElem?_getD,List.getElem?_eq_getElem hj,Option.getD_some]at this
      exact this)
     clear H HF e c3 hi hlt
     go_wp2
     go_loopg [0,6] l0.length (fun kq v0 v6 W'=>∃ (A1:Option Addr) (c1:Nat) (l:List Int) (out:List Int),v0=.slice A1 l.length c1∧Qz (Kd.C (Kd.int .u64) w A1 l.length l)∧Qz (l.length≤c1∧l.length≤kq∧l.length≤65536∧out.length+8*l.length≤524288)∧Qz (∀ x∈l,0≤x∧x≤18446744073709551615∧x<2 ^ 60)∧Qz (out++bIk kq l=bIk l0.length l0)∧Qz (Below w.heap.size w W')∧Qz (Kd.R (Kd.int .u8) 5 W' w.heap.size (fun _=>True) v6 out))
     case atStart=>exact⟨A0,c0,l0,[],rfl,HR,⟨HN.out.2,Nat.le_refl _,HN.out.1,by have:=HN.out;simp;omega⟩,⟨fun x hx=>⟨(HU.out x hx).1,(HU.out x hx).2,HSM.out x hx⟩⟩,⟨rfl⟩,⟨Below.refl _ _⟩,⟨Kd.ayz _ _ _ _ _⟩⟩
     case round=>
      clear HR HN HU HSM c2 c4
      obtain⟨A1,c1,l,out,rfl,HR,HN,HU,HE,HBW,HOW⟩:=hrel
      obtain⟨A6,q6,e6⟩:=Kd.afz HOW.out
      subst e6
      by_cases hpos:0<l.length
      ·have c5:decide (0<(l.length:Int))=true:=decide_eq_true (by omega)
       have c6:decide (0<l.length)=true:=decide_eq_true hpos
       go_wp2
       refine wp_scope_jumps 0 (fun a' w'=>∃ (s:Nat) (x26 x27 x28 x29 x30 x31:Value),s≤15∧a'=⟨#[.slice A1 l.length c1,undef,u2,u3,undef,u5,.slice A6 out.length q6,.int .i64 (s:Int),u8,u9,.slice A0 l0.length c0,.int .i64 (l0.length:Int),.bool false,.slice A0 l0.length c0,.int .i64 (l0.length:Int),.int .i64 (i:Int),.bool false,u17,u18,u19,u20,u21,u22,.slice A1 l.length c1,.int .i64 (l.length:Int),.bool true,x26,x27,x28,x29,x30,x31,u32,u33,u34,u35,u36,u37,u38,u39,u40,u41,u42,u43,u44,u45,undef],[]⟩∧Qz (a3z (15-s) s l=a3z 15 0 l)∧Qz (Below w.heap.size w w')∧Qz (Kd.R (Kd.int .u8) 5 w' w.heap.size (fun _=>True) (.slice A6 out.length q6) out)) (fun(a':Act) _=>15-(match(a'.tmps[7]? : Option Value)with|some (Value.int _ s)=>s.toNat | _=>0)) (by rfl) ?first ?pass
       case first=>
        go_wp2
        go_step3
        have HFS:Qz (a3z 15 0 l=a3z 15 0 l):=⟨rfl⟩
        cases hb:bnq l 0 with
        |false=>
         have hlt15:0<15:=lt15 l hpos (fun x hx=>(HU.out x hx).2.2) 0 (by omega) hb
         have HFS2:=Qz.k (foundF l 0 hlt15 hb HFS.out)
         have HF:=Qz.k (simple_fits.calls A1 c1 l ((0:Nat):Int) _ _ (Kd.acz HR.out HBW.out) HN.out.1 (fits_f l 0 (fun x hx=>⟨(HU.out x hx).1,(HU.out x hx).2.1⟩) (by omega) (by have:=HN.out;omega)))
         rw [hb]at HF
         have hw:=wrap_k 0 (by omega)
         clear hb
         go_wp2_with (first|go_step3|(go_at_call 238;refine HF.out.mono ?_;rintro e w2 ⟨rfl,hb⟩;have HO2:=Qz.k (Kd.ahz HOW.out hb);have HB2:=Qz.k (aaz HBW.out hb);clear hb))
         exact⟨rfl,0+1,by decide,⟨_,_,_,_,_,_,rfl⟩,HFS2,HB2,HO2⟩
        |true=>
         have HF:=Qz.k (simple_fits.calls A1 c1 l ((0:Nat):Int) _ _ (Kd.acz HR.out HBW.out) HN.out.1 (fits_f l 0 (fun x hx=>⟨(HU.out x hx).1,(HU.out x hx).2.1⟩) (by omega) (by have:=HN.out;omega)))
         have hHS:a3z 15 0 l=0:=found l 0 (by omega) hb HFS.out
         rw [hb]at HF
         have HPK:=Qz.k (pack_f l 0 (fun x hx=>⟨(HU.out x hx).1,(HU.out x hx).2.1⟩) (by omega) (by have:=HN.out;omega) hb)
         have HRM:=Qz.k (room_f 0 (by omega))
         obtain⟨f1,f2,f3,f4⟩:=bgq 0 (by omega)
         obtain⟨g1,g2⟩:=bnz hb
         obtain⟨kf,hkf⟩:=(bSk (bck l 0) 8 (by decide)).get
         obtain⟨dq,hdq⟩:∃ dq,gk=dq+1:=⟨gk-1,by have:=HN.out;omega⟩
         have hHE:=HE.out
         rw [hdq,bIk,if_neg (by intro e;rw [e]at hpos;simp at hpos),hHS,←List.append_assoc]at hHE
         have HE2:=Qz.k hHE
         have HFX:=Qz.k hkf
         have hfl:=ank (bck l 0) 8
         generalize fixB 8 (bck l 0)=fx at HFX HE2 hfl
         generalize nn 0=n at HRM HE2 f1 g1
         obtain⟨i09,hi09,_,hsz9,_⟩:=info_parts bNq
         obtain⟨A9,hcut9,hA9,hC9⟩:=bsk (P:=Tryz.prog) (Value.int .u64) (0:Int) 81 22 .i64 Tryz.underlying81 hi09 hsz9 A1 c1 l (n:Int) (by omega) (by omega) HN.out.1
         rw [Int.toNat_natCast]at hcut9 hA9 hC9
         have HR9:=Qz.k (Kd.aSk (h1:=fun _=>rfl) (hA9 _ (Kd.aRk HR.out)))
         have hdl:(l.drop n).length=l.length-n:=List.length_drop
         have HD:=Qz.k (show(l.drop n).length≤c1-n∧(l.drop n).length≤dq∧(l.drop n).length≤65536∧(out++fx).length+8*(l.drop n).length≤524288 from⟨hC9,by have:=HN.out;omega,by have:=HN.out;omega,by have:=HN.out;rw [List.length_append,hfl];omega⟩)
         have HFL:=Qz.k hfl
         have HDQ:=Qz.k hdq
         have HU9:=Qz.k (show ∀ x∈l.drop n,0≤x∧x≤18446744073709551615∧x<2 ^ 60 from fun x hx=>HU.out x (List.mem_of_mem_drop hx))
         generalize l.drop n=l9 at *
         clear hkf hb g2 f3 f4 hHE hA9 hC9 hi09 hsz9 f1 g1 f2 hdl hfl hHS hdq
         go_wp2_with (first
          |go_step3
          |(go_at_call 238;refine HF.out.mono ?_;rintro e w2 ⟨rfl,hb⟩;have HO2:=Qz.k (Kd.ahz HOW.out hb);have HB2:=Qz.k (aaz HBW.out hb);clear hb)
          |(go_at_call 239;refine(simple_pack.calls A1 c1 l ((0:Nat):Int) _ _ (Kd.acz HR.out HB2.out) HN.out.1 HPK.out).mono ?_;rintro e w3 ⟨rfl,hb⟩;have HO3:=Qz.k (Kd.ahz HO2.out hb);have HB3:=Qz.k (aaz HB2.out hb);clear hb)
          |(go_at_call 96;refine(cursor_Fix.calls kf _ _ _ _ HFX.out).mono ?_;rintro e w4 ⟨v4,rfl,ho4,hb⟩;have HO4:=Qz.k (Kd.ahz HO3.out hb);have HB4:=Qz.k (aaz HB3.out hb);have HX4:=Qz.k ho4;clear hb ho4;obtain⟨AX,qX,eX⟩:=Kd.afz HX4.out;subst eX)
          |(go_at_call 240;refine(simple_Room.calls _ _ _ _ HRM.out).mono ?_;rintro e w6 ⟨rfl,hb⟩;have HO6:=Qz.k (Kd.ahz HO5.out hb);have HB6:=Qz.k (aaz HB5.out hb);clear hb)
          |((with_reducible refine agk (b := .append) (xs:=#[.tmp 32,.tmp 36]) rfl ?_);at_builtin;refine Kd.ahq (Kd.int .u8) (w0:=w) w.heap.size rfl (.tmp 32) (.tmp 36) 27 5 (.int .u8 0) 1 rfl Tryz.underlying27 info5 rfl (by decide) (by omega) (.slice A6 out.length q6) out fx AX _ qX (fun _=>True) (fun _=>False) rfl rfl HO4.out (Kd.ack HX4.out).2.2 (fun _ _ h=>h) (fun _ h=>h.elim) (fun _ _=>trivial) HB4.out HB4.out.size (by have:=HFL.out;have:=HN.out;omega) ?_;intro v5 w5 ho5 hb5 hg5 hat5;have HO5:=Qz.k ho5;have HB5:=Qz.k hb5;clear ho5 hb5 hg5 hat5))
         (try simp only [Exit.jump])
         go_wp2
         go_roundg dq
         case measure=>exact(by have:=HDQ.out;omega)
         case rel=>exact⟨A9,c1-n,l9,out++fx,rfl,HR9,HD,HU9,HE2,HB6,HO6⟩
       case pass=>
        clear HBW HOW
        rintro a' w' ⟨s,x26,x27,x28,x29,x30,x31,hs15,rfl,HFS,HBW,HOW⟩
        cases hb:bnq l s with
        |false=>
         have hlt15:s<15:=lt15 l hpos (fun x hx=>(HU.out x hx).2.2) s hs15 hb
         have HFS2:=Qz.k (foundF l s hlt15 hb HFS.out)
         have HF:=Qz.k (simple_fits.calls A1 c1 l ((s:Nat):Int) _ _ (Kd.acz HR.out HBW.out) HN.out.1 (fits_f l s (fun x hx=>⟨(HU.out x hx).1,(HU.out x hx).2.1⟩) (by omega) (by have:=HN.out;omega)))
         rw [hb]at HF
         have hw:=wrap_k s (by omega)
         clear hb
         go_wp2_with (first|go_step3|(go_at_call 238;refine HF.out.mono ?_;rintro e w2 ⟨rfl,hb⟩;have HO2:=Qz.k (Kd.ahz HOW.out hb);have HB2:=Qz.k (aaz HBW.out hb);clear hb))
         exact⟨rfl,⟨s+1,(by clear hw;omega),⟨_,_,_,_,_,_,rfl⟩,HFS2,HB2,HO2⟩,(by clear hw;show 15-((s:Int)+1).toNat<15-s;omega)⟩
        |true=>
         have HF:=Qz.k (simple_fits.calls A1 c1 l ((s:Nat):Int) _ _ (Kd.acz HR.out HBW.out) HN.out.1 (fits_f l s (fun x hx=>⟨(HU.out x hx).1,(HU.out x hx).2.1⟩) (by omega) (by have:=HN.out;omega)))
         have hHS:a3z 15 0 l=s:=found l s hs15 hb HFS.out
         rw [hb]at HF
         have HPK:=Qz.k (pack_f l s (fun x hx=>⟨(HU.out x hx).1,(HU.out x hx).2.1⟩) (by omega) (by have:=HN.out;omega) hb)
         have HRM:=Qz.k (room_f s (by omega))
         obtain⟨f1,f2,f3,f4⟩:=bgq s (by omega)
         obtain⟨g1,g2⟩:=bnz hb
         obtain⟨kf,hkf⟩:=(bSk (bck l s) 8 (by decide)).get
         obtain⟨dq,hdq⟩:∃ dq,gk=dq+1:=⟨gk-1,by have:=HN.out;omega⟩
         have hHE:=HE.out
         rw [hdq,bIk,if_neg (by intro e;rw [e]at hpos;simp at hpos),hHS,←List.append_assoc]at hHE
         have HE2:=Qz.k hHE
         have HFX:=Qz.k hkf
         have hfl:=ank (bck l s) 8
         generalize fixB 8 (bck l s)=fx at HFX HE2 hfl
         generalize nn s=n at HRM HE2 f1 g1
         obtain⟨i09,hi09,_,hsz9,_⟩:=info_parts bNq
         obtain⟨A9,hcut9,hA9,hC9⟩:=bsk (P:=Tryz.prog) (Value.int .u64) (0:Int) 81 22 .i64 Tryz.underlying81 hi09 hsz9 A1 c1 l (n:Int) (by omega) (by omega) HN.out.1
         rw [Int.toNat_natCast]at hcut9 hA9 hC9
         have HR9:=Qz.k (Kd.aSk (h1:=fun _=>rfl) (hA9 _ (Kd.aRk HR.out)))
         have hdl:(l.drop n).length=l.length-n:=List.length_drop
         have HD:=Qz.k (show(l.drop n).length≤c1-n∧(l.drop n).length≤dq∧(l.drop n).length≤65536∧(out++fx).length+8*(l.drop n).length≤524288 from⟨hC9,by have:=HN.out;omega,by have:=HN.out;omega,by have:=HN.out;rw [List.length_append,hfl];omega⟩)
         have HFL:=Qz.k hfl
         have HDQ:=Qz.k hdq
         have HU9:=Qz.k (show ∀ x∈l.drop n,0≤x∧x≤18446744073709551615∧x<2 ^ 60 from fun x hx=>HU.out x (List.mem_of_mem_drop hx))
         generalize l.drop n=l9 at *
         clear hkf hb g2 f3 f4 hHE hA9 hC9 hi09 hsz9 f1 g1 f2 hdl hfl hHS hdq
         go_wp2_with (first
          |go_step3
          |(go_at_call 238;refine HF.out.mono ?_;rintro e w2 ⟨rfl,hb⟩;have HO2:=Qz.k (Kd.ahz HOW.out hb);have HB2:=Qz.k (aaz HBW.out hb);clear hb)
          |(go_at_call 239;refine(simple_pack.calls A1 c1 l ((s:Nat):Int) _ _ (Kd.acz HR.out HB2.out) HN.out.1 HPK.out).mono ?_;rintro e w3 ⟨rfl,hb⟩;have HO3:=Qz.k (Kd.ahz HO2.out hb);have HB3:=Qz.k (aaz HB2.out hb);clear hb)
          |(go_at_call 96;refine(cursor_Fix.calls kf _ _ _ _ HFX.out).mono ?_;rintro e w4 ⟨v4,rfl,ho4,hb⟩;have HO4:=Qz.k (Kd.ahz HO3.out hb);have HB4:=Qz.k (aaz HB3.out hb);have HX4:=Qz.k ho4;clear hb ho4;obtain⟨AX,qX,eX⟩:=Kd.afz HX4.out;subst eX)
          |(go_at_call 240;refine(simple_Room.calls _ _ _ _ HRM.out).mono ?_;rintro e w6 ⟨rfl,hb⟩;have HO6:=Qz.k (Kd.ahz HO5.out hb);have HB6:=Qz.k (aaz HB5.out hb);clear hb)
          |((with_reducible refine agk (b := .append) (xs:=#[.tmp 32,.tmp 36]) rfl ?_);at_builtin;refine Kd.ahq (Kd.int .u8) (w0:=w) w.heap.size rfl (.tmp 32) (.tmp 36) 27 5 (.int .u8 0) 1 rfl Tryz.underlying27 info5 rfl (by decide) (by omega) (.slice A6 out.length q6) out fx AX _ qX (fun _=>True) (fun _=>False) rfl rfl HO4.out (Kd.ack HX4.out).2.2 (fun _ _ h=>h) (fun _ h=>h.elim) (fun _ _=>trivial) HB4.out HB4.out.size (by have:=HFL.out;have:=HN.out;omega) ?_;intro v5 w5 ho5 hb5 hg5 hat5;have HO5:=Qz.k ho5;have HB5:=Qz.k hb5;clear ho5 hb5 hg5 hat5))
         (try simp only [Exit.jump])
         go_wp2
         go_roundg dq
         case measure=>exact(by have:=HDQ.out;omega)
         case rel=>exact⟨A9,c1-n,l9,out++fx,rfl,HR9,HD,HU9,HE2,HB6,HO6⟩
      ·have hl0:l=[]:=List.eq_nil_of_length_eq_zero (by omega)
       subst hl0
       have hHE:=HE.out
       rw [show bIk gk []=[]from by cases gk <;> simp [bIk],List.append_nil]at hHE
       have HE2:=Qz.k hHE
       clear hHE HE
       go_wp2
       go_ret2
       rw [←HE2.out]
       exact⟨_,rfl,HOW.out,HBW.out⟩
end Go.Proofs.YthggdomocichdaaGreatDoor.P
namespace Go.Proofs.YthggdomocichdaaGreatDoor.P
open Go.RowKit Go.Proofs.YthggdomocichdaaGreatDoorW.PrintWords Go.Proofs.YthggdomocichdaaGreatDoorW.PrintLast Go.Proofs.YthggdomocichdaaGreatDoorW.PrintMore
attribute [local go_sem] awq awz aCq aCz azk azq aFz aEk
mutual
def runs_Encode.l0 : Nat→List Int→List Int→Int→List Int→Int→Int→Option (List Int×Int)
 | 0,_,_,_,_,_,_=>none
 |k+1,x0,x4,x5,x11,x12,x13=>if x13<x12 then(if 0≤x13 then(if x13<(x11.length:Int)then(if(wrap64 (x13+1))<(x0.length:Int)then(if 0≤(wrap64 (x13+1))then(runs_Encode.j1 k x0 x4 x5 (rd x11 x13) x11 x12 x13 ((rd x0 (wrap64 (x13+1))) ==(rd x11 x13)))else(none))else(runs_Encode.j1 k x0 x4 x5 (rd x11 x13) x11 x12 x13 false))else(none))else(none))else(some (x4,0))
def runs_Encode.j1 : Nat→List Int→List Int→Int→Int→List Int→Int→Int→Bool→Option (List Int×Int)
 | 0,_,_,_,_,_,_,_,_=>none
 |k+1,x0,x4,x5,x7,x11,x12,x13,x31=>if x31=true then(runs_Encode.l0 k x0 x4 (IntKind.u64.wrap (x5+1)) x11 x12 (wrap64 (x13+1)))else((varint_Append.f k x4 x7).bind fun t173=>((varint_Append.f k t173 x5).bind fun t176=>(runs_Encode.l0 k x0 t176 0 x11 x12 (wrap64 (x13+1)))))
end
def runs_Encode.f (k:Nat)(l0:List Int):Option (List Int×Int):=if(l0.length:Int) > 65536 then(some (([]:List Int),4))else(runs_Encode.l0 k l0 ([]:List Int) 0 l0 (l0.length:Int) 0)
theorem runs_Encode.atz : ∀ k,(∀ y0 y1 y2 y3 y4 y5,LeO (runs_Encode.l0 k y0 y1 y2 y3 y4 y5) (runs_Encode.l0 (k+1) y0 y1 y2 y3 y4 y5))∧(∀ y0 y1 y2 y3 y4 y5 y6 y7,LeO (runs_Encode.j1 k y0 y1 y2 y3 y4 y5 y6 y7) (runs_Encode.j1 (k+1) y0 y1 y2 y3 y4 y5 y6 y7))
 | 0=>⟨fun _ _ _ _ _ _ r h=>by simp [runs_Encode.l0]at h,fun _ _ _ _ _ _ _ _ r h=>by simp [runs_Encode.j1]at h⟩
 |k+1=>by
  obtain⟨ih0,ih1⟩:=runs_Encode.atz k
  refine⟨?_,?_⟩
  ·intro y0 y1 y2 y3 y4 y5
   unfold runs_Encode.l0
   repeat' first
   |(with_reducible exact ih0 _ _ _ _ _ _)
   |(with_reducible exact ih1 _ _ _ _ _ _ _ _)
   |(with_reducible exact varint_Append.mono _ _ _)
   |(with_reducible exact LeO.refl _)
   |(with_reducible exact LeO.none _)
   |(with_reducible refine LeO.ite ?_ ?_)
   |(with_reducible refine LeO.bind ?_ (fun _=>?_))
   |exact ih0 _ _ _ _ _ _
   |exact ih1 _ _ _ _ _ _ _ _
   |exact varint_Append.mono _ _ _
   |exact LeO.none _
   |refine LeO.ite ?_ ?_
   |refine LeO.bind ?_ (fun _=>?_)
  ·intro y0 y1 y2 y3 y4 y5 y6 y7
   unfold runs_Encode.j1
   repeat' first
   |(with_reducible exact ih0 _ _ _ _ _ _)
   |(with_reducible exact ih1 _ _ _ _ _ _ _ _)
   |(with_reducible exact varint_Append.mono _ _ _)
   |(with_reducible exact LeO.refl _)
   |(with_reducible exact LeO.none _)
   |(with_reducible refine LeO.ite ?_ ?_)
   |(with_reducible refine LeO.bind ?_ (fun _=>?_))
   |exact ih0 _ _ _ _ _ _
   |exact ih1 _ _ _ _ _ _ _ _
   |exact varint_Append.mono _ _ _
   |exact LeO.none _
   |refine LeO.ite ?_ ?_
   |refine LeO.bind ?_ (fun _=>?_)
theorem runs_Encode.mono : ∀ a0 k,LeO (runs_Encode.f k a0) (runs_Encode.f (k+1) a0):=by
 intro a0 k
 obtain⟨ih0,ih1⟩:=runs_Encode.atz k
 unfold runs_Encode.f
 repeat' first
   |(with_reducible exact ih0 _ _ _ _ _ _)
   |(with_reducible exact ih1 _ _ _ _ _ _ _ _)
   |(with_reducible exact varint_Append.mono _ _ _)
   |(with_reducible exact LeO.refl _)
   |(with_reducible exact LeO.none _)
   |(with_reducible refine LeO.ite ?_ ?_)
   |(with_reducible refine LeO.bind ?_ (fun _=>?_))
   |exact ih0 _ _ _ _ _ _
   |exact ih1 _ _ _ _ _ _ _ _
   |exact varint_Append.mono _ _ _
   |exact LeO.none _
   |refine LeO.ite ?_ ?_
   |refine LeO.bind ?_ (fun _=>?_)
set_option maxHeartbeats 8000000 in
theorem runs_Encode.calls (k:Nat)(A0:Option Addr)(c0:Nat)(l0:List Int)(r1:List Int)(r2:Int)(w:World)(hr0:Kd.C (Kd.int .u64) w A0 l0.length l0)(hc0:l0.length≤c0)(h:runs_Encode.f k l0=some (r1,r2)) :
  Calls Tryz.prog 194 #[.slice A0 l0.length c0] w fun e w'=>∃ v0_:Value,e=.returned (.tuple #[v0_,.int .i64 r2])∧Kd.R (Kd.int .u8) 5 w' w.heap.size (fun _=>True) v0_ r1∧Below w.heap.size w w':=by
 have HR0:=Qz.k hr0
 have HC0:=Qz.k hc0
 clear hr0 hc0
 have HB:=Qz.k (Below.refl w.heap.size w)
 have H:(if(l0.length:Int) > 65536 then(some (([]:List Int),4))else(runs_Encode.l0 k l0 ([]:List Int) 0 l0 (l0.length:Int) 0))=some (r1,r2):=h
 clear h
 by_cases c2:(l0.length:Int) > 65536
 ·rw [if_pos c2]at H
  have c2b0:decide (65536<(l0.length:Int))=true:=decide_eq_true c2
  have c2b1:decide (65536<l0.length)=true:=decide_eq_true (by omega)
  clear c2
  simp only [Option.some.injEq,Prod.mk.injEq]at H
  obtain⟨rfl,rfl⟩:=H
  go_enter Tryz.func194,Tryz.ntmps194
  go_wp2
  go_ret2
  exact⟨_,by first|rfl|(simp [aek,aeq] <;> rfl)|(simp [*,aek,aeq] <;> rfl),by first|exact Kd.ayz _ _ _ _ _|exact Kd.baz _ _ _ _ _|exact Kd.a9z _ _ _ _ _|exact Kd.a9k _ _ _ _ _|exact Kd.a9q _ _ _ _ _,au_⟩
 ·rw [if_neg c2]at H
  have c2b0:decide (65536<(l0.length:Int))=false:=decide_eq_false c2
  have c2b1:decide (65536<l0.length)=false:=decide_eq_false (by omega)
  clear c2
  have H':=Qz.k H
  clear H
  go_enter Tryz.func194,Tryz.ntmps194
  go_wp2
  go_loopg [4,5,13] k (fun kq v4 v5 v13 w'=>∃ (x4_1:List Int) (x5_1:Int) (x13_1:Int),v5=.int .u64 x5_1∧v13=.int .i64 x13_1∧Qz (runs_Encode.l0 kq l0 x4_1 x5_1 l0 (l0.length:Int) x13_1=some (r1,r2))∧Qz (kq≤k)∧Qz (Kd.R (Kd.int .u8) 5 w' w.heap.size (fun _=>True) v4 x4_1)∧Qz (Below w.heap.size w w'))
  case atStart=>exact⟨(([]:List Int)),(0),(0),(by first|rfl|(simp;done)|(simp [*];done)),(by first|rfl|(simp;done)|(simp [*];done)),H',⟨Nat.le_refl _⟩,⟨by first|exact Kd.ayz _ _ _ _ _|exact Kd.baz _ _ _ _ _|exact Kd.a9z _ _ _ _ _|exact Kd.a9k _ _ _ _ _|exact Kd.a9q _ _ _ _ _⟩,⟨au_⟩⟩
  case round=>
   clear H'
   try clear c1
   try clear c2
   try clear c2b0
   try clear c2b1
   try clear p2
   obtain⟨x4_1,x5_1,x13_1,rfl,rfl,HA,HK1,HO_4,HB⟩:=hrel
   cases gk with
   |zero=>exact absurd HA.out (by simp [runs_Encode.l0])
   |succ k1=>
    have H:=HA.out
    clear HA
    simp only [runs_Encode.l0]at H
    by_cases c3:x13_1<(l0.length:Int)
    ·rw [if_pos c3]at H
     have c3b0:decide (x13_1<(l0.length:Int))=true:=decide_eq_true c3
     clear c3
     by_cases c4:0≤x13_1
     ·rw [if_pos c4]at H
      have c4b0:decide (0≤x13_1)=true:=decide_eq_true c4
      clear c4
      by_cases c5:x13_1<(l0.length:Int)
      ·rw [if_pos c5]at H
       have c5b0:decide (x13_1<(l0.length:Int))=true:=decide_eq_true c5
       clear c5
       have HC6:=Qz.k H
       clear H
       have p171:0≤(x13_1:Int):=of_decide_eq_true (by first|(with_reducible assumption)|assumption)
       have q171:x13_1<(l0.length:Int):=of_decide_eq_true (by first|(with_reducible assumption)|assumption)
       obtain⟨ad171,e171,hx171_0⟩:=Kd.asz HR0.out x13_1 p171 q171
       cases e171
       replace hx171_0:=(HB.out.cell (World.block_lt_of_cell? w _ hx171_0)).trans hx171_0
       replace p171:=eq_true p171
       replace q171:=eq_true q171
       go_upto_region 8 with(fail)
       go_cut [31] (fun v31 wc=>∃ (kq:Nat) (x31_5:Bool),v31=.bool x31_5∧Qz (runs_Encode.j1 kq l0 x4_1 x5_1 (rd l0 x13_1) l0 (l0.length:Int) x13_1 x31_5=some (r1,r2))∧Qz (kq≤k1)∧Qz (Kd.R (Kd.int .u8) 5 wc w.heap.size (fun _=>True) u4 x4_1)∧Qz (Below w.heap.size w wc))
       case first=>
        have H:=HC6.out
        clear HC6
        by_cases c7:(wrap64 (x13_1+1))<(l0.length:Int)
        ·rw [if_pos c7]at H
         have c7b0:decide ((wrap64 (x13_1+1))<(l0.length:Int))=true:=decide_eq_true c7
         clear c7
         (first|rw [c7b0]|(simp only [abq,abk];rw [c7b0])|skip)
         obtain⟨ji8,hji8⟩:∃ j_:Int,(wrap64 (x13_1+1))=j_:=⟨_,rfl⟩
         replace H:(if 0≤(ji8)then(runs_Encode.j1 k1 l0 x4_1 x5_1 (rd l0 x13_1) l0 (l0.length:Int) x13_1 ((rd l0 (ji8)) ==(rd l0 x13_1)))else(none))=some (r1,r2):=by first|(rw [hji8]at H;exact H)|(simp only [hji8]at H ⊢;exact H)
         (try rw [hji8]at c7b0)
         have hji8w:(IntKind.i64.wrap (x13_1+1))=ji8:=(abq _).trans hji8
         by_cases c9:0≤(ji8)
         ·rw [if_pos c9]at H
          have c9b0:decide (0≤(ji8))=true:=decide_eq_true c9
          clear c9
          have H':=Qz.k H
          clear H
          have p172:0≤((ji8):Int):=of_decide_eq_true (by first|(with_reducible assumption)|assumption)
          have q172:(ji8)<(l0.length:Int):=of_decide_eq_true (by first|(with_reducible assumption)|assumption)
          obtain⟨ad172,e172,hx172_0⟩:=Kd.asz HR0.out (ji8) p172 q172
          obtain rfl:ad171=ad172:=(by injection e172)
          replace hx172_0:=(HB.out.cell (World.block_lt_of_cell? w _ hx172_0)).trans hx172_0
          replace p172:=eq_true p172
          replace q172:=eq_true q172
          go_wp2
          go_meet
          case rel=>exact⟨_,(((rd l0 (ji8)) ==(rd l0 x13_1))),(by first|rfl|(simp;done)|(simp only [←hji8] <;>(first|rfl|simp))|(simp [*];done)),H',⟨by have:=HK1.out;first|omega|exact Nat.le_refl _⟩,⟨by(with_reducible repeat(first|apply Kd.akq|apply Kd.akk|apply Kd.amz));exact HO_4.out⟩,⟨au_⟩⟩
         ·rw [if_neg c9]at H
          exact absurd H (by simp)
        ·rw [if_neg c7]at H
         have c7b0:decide ((wrap64 (x13_1+1))<(l0.length:Int))=false:=decide_eq_false c7
         clear c7
         (first|rw [c7b0]|(simp only [abq,abk];rw [c7b0])|skip)
         have H':=Qz.k H
         clear H
         go_wp2
         go_meet
         case rel=>exact⟨_,(false),(by first|rfl|(simp;done)|(simp [*];done)),H',⟨by have:=HK1.out;first|omega|exact Nat.le_refl _⟩,⟨by(with_reducible repeat(first|apply Kd.akq|apply Kd.akk|apply Kd.amz));exact HO_4.out⟩,⟨au_⟩⟩
       case rest=>
        clear HC6
        try clear c1
        try clear p1
        try clear q1
        try clear hx1
        try clear c2
        try clear c2b0
        try clear c2b1
        try clear p2
        try clear c3
        try clear c3b0
        try clear c4
        try clear c4b0
        try clear c5
        try clear c5b0
        try clear p6
        try clear c7
        try clear c7b0
        try clear c9
        try clear c9b0
        try clear hx171_0
        try clear hx172_0
        try clear p171
        try clear p172
        try clear p2
        try clear q171
        try clear q172
        obtain⟨kq,x31_5,rfl,HA,HJ5,HO_4,HB⟩:=hcut
        cases kq with
        |zero=>exact absurd HA.out (by simp [runs_Encode.j1])
        |succ kj5=>
         have H:=HA.out
         clear HA
         simp only [runs_Encode.j1]at H
         by_cases c10:x31_5=true
         ·subst c10
          have H1:(runs_Encode.l0 kj5 l0 x4_1 (IntKind.u64.wrap (x5_1+1)) l0 (l0.length:Int) (wrap64 (x13_1+1)))=some (r1,r2):=by rw [if_pos rfl]at H;exact H
          clear H
          have H:=H1
          clear H1
          have H':=Qz.k H
          clear H
          go_wp2
          go_roundg kj5
          case measure=>have:=HK1.out;have:=HJ5.out;omega
          case rel=>exact⟨(x4_1),(IntKind.u64.wrap (x5_1+1)),(wrap64 (x13_1+1)),(by first|rfl|(simp;done)|(simp [*];done)),(by first|rfl|(simp;done)|(simp [*];done)),H',⟨by have:=HK1.out;have:=HJ5.out;omega⟩,⟨by(with_reducible repeat(first|apply Kd.akq|apply Kd.akk|apply Kd.amz));exact HO_4.out⟩,⟨au_⟩⟩
         ·replace c10:=Bool.eq_false_iff.mpr c10
          subst c10
          have H1:((varint_Append.f kj5 x4_1 (rd l0 x13_1)).bind fun t173=>((varint_Append.f kj5 t173 x5_1).bind fun t176=>(runs_Encode.l0 kj5 l0 t176 0 l0 (l0.length:Int) (wrap64 (x13_1+1)))))=some (r1,r2):=by rw [if_neg (show ¬ (false=true)by decide)]at H;exact H
          clear H
          have H:=H1
          clear H1
          replace H:=Option.bind_eq_some_iff.mp H
          obtain⟨t173,A110,H⟩:=H
          replace H:((varint_Append.f kj5 t173 x5_1).bind fun t176=>(runs_Encode.l0 kj5 l0 t176 0 l0 (l0.length:Int) (wrap64 (x13_1+1))))=some (r1,r2):=H
          have A11:=Qz.k A110
          clear A110
          replace H:=Option.bind_eq_some_iff.mp H
          obtain⟨t176,A120,H⟩:=H
          replace H:(runs_Encode.l0 kj5 l0 t176 0 l0 (l0.length:Int) (wrap64 (x13_1+1)))=some (r1,r2):=H
          have A12:=Qz.k A120
          clear A120
          have H':=Qz.k H
          clear H
          obtain⟨Ao13,co13,eo13⟩:=Kd.afz HO_4.out
          subst eo13
          go_wp2_with (first|((with_reducible refine aiz (f:=43) rfl ?_);refine asq (some 36) rfl rfl Tryz.func43 (by kernel_rfl) rfl #[.slice Ao13 x4_1.length co13,.int .u64 (rd l0 x13_1)] rfl (by(try simp only [List.map_toArray,List.map_cons,List.map_nil]);first|done|rfl|(simp only [List.length_drop,List.length_take];rfl)) ?_;(with_reducible refine(varint_Append.calls kj5 _ _ x4_1 (rd l0 x13_1) t173 _ ?side1 ?side2 A11.out).mono ?_);(case side1=>repeat(first|exact(Kd.ack HO_4.out).2.2|(with_reducible refine Kd.aqk ?_ _)|(with_reducible refine Kd.aqz ?_ _)|(with_reducible refine Kd.atq ?_)));(case side2=>exact(Kd.ack HO_4.out).2.1);rintro e w14 ⟨v174,rfl,ho0,hb⟩;refine⟨_,rfl,?_⟩;have n0_:=Qz.k (Kd.aHk (al_ HO_4.out) (Kd.aRz ho0) hb);have n1_:=Qz.k (Kd.aiq (Kd.aYq ho0 (Kd.R_lt (al_ HO_4.out))) (afq au_));have n2_:=Qz.k (aaz au_ hb);clear HO_4;clear HB;have HO_4:=n0_;have HO175:=n1_;have HB:=n2_;clear n0_ n1_ n2_;(try clear hb);(try clear hb2);(try clear hk);(try clear hi);(try clear ho0);obtain⟨Ao15,co15,eo15⟩:=Kd.afz HO175.out;subst eo15)|((with_reducible refine aiz (f:=43) rfl ?_);refine asq (some 38) rfl rfl Tryz.func43 (by kernel_rfl) rfl #[.slice Ao15 t173.length co15,.int .u64 x5_1] rfl (by(try simp only [List.map_toArray,List.map_cons,List.map_nil]);first|done|rfl|(simp only [List.length_drop,List.length_take];rfl)) ?_;(with_reducible refine(varint_Append.calls kj5 _ _ t173 x5_1 t176 _ ?side1 ?side2 A12.out).mono ?_);(case side1=>repeat(first|exact(Kd.ack HO175.out).2.2|(with_reducible refine Kd.aqk ?_ _)|(with_reducible refine Kd.aqz ?_ _)|(with_reducible refine Kd.atq ?_)));(case side2=>exact(Kd.ack HO175.out).2.1);rintro e w16 ⟨v177,rfl,ho0,hb⟩;refine⟨_,rfl,?_⟩;have n0_:=Qz.k (Kd.aHk (al_ HO_4.out) (Kd.aRz ho0) hb);have n1_:=Qz.k (Kd.aHk (al_ HO175.out) (Kd.aRz ho0) hb);have n2_:=Qz.k (Kd.aiq (Kd.aYq (Kd.aYq ho0 (Kd.R_lt (al_ HO_4.out))) (Kd.R_lt (al_ HO175.out))) (afq au_));have n3_:=Qz.k (aaz au_ hb);clear HO_4;clear HO175;clear HB;have HO_4:=n0_;have HO175:=n1_;have HO178:=n2_;have HB:=n3_;clear n0_ n1_ n2_ n3_;(try clear hb);(try clear hb2);(try clear hk);(try clear hi);(try clear ho0)))
          go_roundg kj5
          case measure=>have:=HK1.out;have:=HJ5.out;omega
          case rel=>exact⟨(t176),(0),(wrap64 (x13_1+1)),(by first|rfl|(simp;done)|(simp [*];done)),(by first|rfl|(simp;done)|(simp [*];done)),H',⟨by have:=HK1.out;have:=HJ5.out;omega⟩,⟨by(with_reducible repeat(first|apply Kd.akq|apply Kd.akk|apply Kd.amz));exact Kd.R_mono HO178.out (fun _ hk=>trivial)⟩,⟨au_⟩⟩
      ·rw [if_neg c5]at H
       exact absurd H (by simp)
     ·rw [if_neg c4]at H
      exact absurd H (by simp)
    ·rw [if_neg c3]at H
     have c3b0:decide (x13_1<(l0.length:Int))=false:=decide_eq_false c3
     clear c3
     simp only [Option.some.injEq,Prod.mk.injEq]at H
     obtain⟨rfl,rfl⟩:=H
     go_wp2
     go_ret2
     exact⟨_,by first|rfl|(simp [aek,aeq] <;> rfl)|(simp [*,aek,aeq] <;> rfl),by(with_reducible repeat(first|apply Kd.akq|apply Kd.akk|apply Kd.amz));exact HO_4.out,au_⟩
def intcodec_tail.l0 : Nat→List Int→List Int→Int→Int→Option (List Int×Int)
 | 0,_,_,_,_=>none
 |k+1,x6,x28,x29,x30=>if x30<x29 then(if 0≤x30 then(if x30<(x28.length:Int)then((varint_Append.f k ([]:List Int) (rd x28 x30)).bind fun t192=>(if x6.length+t192.length<140737488355328 then(intcodec_tail.l0 k (x6++t192) x28 x29 (wrap64 (x30+1)))else(none)))else(none))else(none))else(some (x6,0))
def intcodec_tail.f (k:Nat)(l0:List Int)(a1:Int):Option (List Int×Int):=if a1=2 then((forpack_Pack.f k l0).bind fun bt179=>(some (bt179.1,bt179.2)))else(if a1=3 then((simple_Encode.f l0).bind fun bt183=>(some (bt183.1,bt183.2)))else(if a1=4 then((runs_Encode.f k l0).bind fun bt187=>(some (bt187.1,bt187.2)))else(intcodec_tail.l0 k ([]:List Int) l0 (l0.length:Int) 0)))
theorem intcodec_tail.atz : ∀ k,(∀ y0 y1 y2 y3,LeO (intcodec_tail.l0 k y0 y1 y2 y3) (intcodec_tail.l0 (k+1) y0 y1 y2 y3))
 | 0=>fun _ _ _ _ r h=>by simp [intcodec_tail.l0]at h
 |k+1=>by
  have ih0:=intcodec_tail.atz k
  ·intro y0 y1 y2 y3
   unfold intcodec_tail.l0
   repeat' first
   |(with_reducible exact ih0 _ _ _ _)
   |(with_reducible exact forpack_Pack.mono _ _)
   |(with_reducible exact runs_Encode.mono _ _)
   |(with_reducible exact varint_Append.mono _ _ _)
   |(with_reducible exact LeO.refl _)
   |(with_reducible exact LeO.none _)
   |(with_reducible refine LeO.ite ?_ ?_)
   |(with_reducible refine LeO.bind ?_ (fun _=>?_))
   |exact ih0 _ _ _ _
   |exact forpack_Pack.mono _ _
   |exact runs_Encode.mono _ _
   |exact varint_Append.mono _ _ _
   |exact LeO.none _
   |refine LeO.ite ?_ ?_
   |refine LeO.bind ?_ (fun _=>?_)
theorem intcodec_tail.mono : ∀ a0 a1 k,LeO (intcodec_tail.f k a0 a1) (intcodec_tail.f (k+1) a0 a1):=by
 intro a0 a1 k
 have ih0:=intcodec_tail.atz k
 unfold intcodec_tail.f
 repeat' first
   |(with_reducible exact ih0 _ _ _ _)
   |(with_reducible exact forpack_Pack.mono _ _)
   |(with_reducible exact runs_Encode.mono _ _)
   |(with_reducible exact varint_Append.mono _ _ _)
   |(with_reducible exact LeO.refl _)
   |(with_reducible exact LeO.none _)
   |(with_reducible refine LeO.ite ?_ ?_)
   |(with_reducible refine LeO.bind ?_ (fun _=>?_))
   |exact ih0 _ _ _ _
   |exact forpack_Pack.mono _ _
   |exact runs_Encode.mono _ _
   |exact varint_Append.mono _ _ _
   |exact LeO.none _
   |refine LeO.ite ?_ ?_
   |refine LeO.bind ?_ (fun _=>?_)
set_option maxHeartbeats 8000000 in
theorem intcodec_tail.calls (k:Nat)(A0:Option Addr)(c0:Nat)(l0:List Int)(a1:Int)(r1:List Int)(r2:Int)(w:World)(hr0:Kd.C (Kd.int .u64) w A0 l0.length l0)(hc0:l0.length≤c0)(h:intcodec_tail.f k l0 a1=some (r1,r2)) :
  Calls Tryz.prog 149 #[.slice A0 l0.length c0,.int .i64 a1] w fun e w'=>∃ v0_:Value,e=.returned (.tuple #[v0_,.int .i64 r2])∧Kd.R (Kd.int .u8) 5 w' w.heap.size (fun _=>True) v0_ r1∧Below w.heap.size w w':=by
 have HR0:=Qz.k hr0
 have HC0:=Qz.k hc0
 clear hr0 hc0
 have HB:=Qz.k (Below.refl w.heap.size w)
 have H:(if a1=2 then((forpack_Pack.f k l0).bind fun bt179=>(some (bt179.1,bt179.2)))else(if a1=3 then((simple_Encode.f l0).bind fun bt183=>(some (bt183.1,bt183.2)))else(if a1=4 then((runs_Encode.f k l0).bind fun bt187=>(some (bt187.1,bt187.2)))else(intcodec_tail.l0 k ([]:List Int) l0 (l0.length:Int) 0))))=some (r1,r2):=h
 clear h
 by_cases c3:a1=2
 ·rw [if_pos c3]at H
  have c3b0:(a1 == 2)=true:=beq_iff_eq.mpr c3
  have c3b1:(a1 != 2)=false:=bne_eq_false_iff_eq.mpr c3
  clear c3
  replace H:=Option.bind_eq_some_iff.mp H
  obtain⟨⟨t179,t180⟩,A40,H⟩:=H
  replace H:(some (t179,t180))=some (r1,r2):=H
  have A4:=Qz.k A40
  clear A40
  simp only [Option.some.injEq,Prod.mk.injEq]at H
  obtain⟨rfl,rfl⟩:=H
  go_enter Tryz.func149,Tryz.ntmps149
  go_wp2_with (first|((with_reducible refine aiz (f:=192) rfl ?_);refine asq (some 13) rfl rfl Tryz.func192 (by kernel_rfl) rfl #[.slice A0 l0.length c0] rfl (by(try simp only [List.map_toArray,List.map_cons,List.map_nil]);first|done|rfl|(simp only [List.length_drop,List.length_take];rfl)) ?_;(with_reducible refine(forpack_Pack.calls k _ _ l0 t179 t180 _ ?side1 ?side2 A4.out).mono ?_);(case side1=>repeat(first|exact HR0.out|(with_reducible refine Kd.aqk ?_ _)|(with_reducible refine Kd.aqz ?_ _)|(with_reducible refine Kd.atq ?_)));(case side2=>exact HC0.out);rintro e w5 ⟨v181,rfl,ho0,hb⟩;refine⟨_,rfl,?_⟩;have n0_:=Qz.k (Kd.aiq ho0 (afq au_));have n1_:=Qz.k (aaz au_ hb);clear HB;have HO182:=n0_;have HB:=n1_;clear n0_ n1_;(try clear hb);(try clear hb2);(try clear hk);(try clear hi);(try clear ho0)))
  go_ret2
  exact⟨_,by first|rfl|(simp [aek,aeq] <;> rfl)|(simp [*,aek,aeq] <;> rfl),by(with_reducible repeat(first|apply Kd.akq|apply Kd.akk|apply Kd.amz));exact HO182.out,au_⟩
 ·rw [if_neg c3]at H
  have c3b0:(a1 == 2)=false:=beq_eq_false_iff_ne.mpr c3
  have c3b1:(a1 != 2)=true:=bne_iff_ne.mpr c3
  by_cases c6:a1=3
  ·rw [if_pos c6]at H
   have c6b0:(a1 == 3)=true:=beq_iff_eq.mpr c6
   have c6b1:(a1 != 3)=false:=bne_eq_false_iff_eq.mpr c6
   clear c6
   replace H:=Option.bind_eq_some_iff.mp H
   obtain⟨⟨t183,t184⟩,A70,H⟩:=H
   replace H:(some (t183,t184))=some (r1,r2):=H
   have A7:=Qz.k A70
   clear A70
   simp only [Option.some.injEq,Prod.mk.injEq]at H
   obtain⟨rfl,rfl⟩:=H
   go_enter Tryz.func149,Tryz.ntmps149
   go_wp2_with (first|((with_reducible refine aiz (f:=193) rfl ?_);refine asq (some 19) rfl rfl Tryz.func193 (by kernel_rfl) rfl #[.slice A0 l0.length c0] rfl (by(try simp only [List.map_toArray,List.map_cons,List.map_nil]);first|done|rfl|(simp only [List.length_drop,List.length_take];rfl)) ?_;(with_reducible refine(simple_Encode.calls _ _ l0 t183 t184 _ ?side1 ?side2 A7.out).mono ?_);(case side1=>repeat(first|exact HR0.out|(with_reducible refine Kd.aqk ?_ _)|(with_reducible refine Kd.aqz ?_ _)|(with_reducible refine Kd.atq ?_)));(case side2=>exact HC0.out);rintro e w8 ⟨v185,rfl,ho0,hb⟩;refine⟨_,rfl,?_⟩;have n0_:=Qz.k (Kd.aiq ho0 (afq au_));have n1_:=Qz.k (aaz au_ hb);clear HB;have HO186:=n0_;have HB:=n1_;clear n0_ n1_;(try clear hb);(try clear hb2);(try clear hk);(try clear hi);(try clear ho0)))
   go_ret2
   exact⟨_,by first|rfl|(simp [aek,aeq] <;> rfl)|(simp [*,aek,aeq] <;> rfl),by(with_reducible repeat(first|apply Kd.akq|apply Kd.akk|apply Kd.amz));exact HO186.out,au_⟩
  ·rw [if_neg c6]at H
   have c6b0:(a1 == 3)=false:=beq_eq_false_iff_ne.mpr c6
   have c6b1:(a1 != 3)=true:=bne_iff_ne.mpr c6
   by_cases c9:a1=4
   ·rw [if_pos c9]at H
    have c9b0:(a1 == 4)=true:=beq_iff_eq.mpr c9
    have c9b1:(a1 != 4)=false:=bne_eq_false_iff_eq.mpr c9
    clear c9
    replace H:=Option.bind_eq_some_iff.mp H
    obtain⟨⟨t187,t188⟩,A100,H⟩:=H
    replace H:(some (t187,t188))=some (r1,r2):=H
    have A10:=Qz.k A100
    clear A100
    simp only [Option.some.injEq,Prod.mk.injEq]at H
    obtain⟨rfl,rfl⟩:=H
    go_enter Tryz.func149,Tryz.ntmps149
    go_wp2_with (first|((with_reducible refine aiz (f:=194) rfl ?_);refine asq (some 25) rfl rfl Tryz.func194 (by kernel_rfl) rfl #[.slice A0 l0.length c0] rfl (by(try simp only [List.map_toArray,List.map_cons,List.map_nil]);first|done|rfl|(simp only [List.length_drop,List.length_take];rfl)) ?_;(with_reducible refine(runs_Encode.calls k _ _ l0 t187 t188 _ ?side1 ?side2 A10.out).mono ?_);(case side1=>repeat(first|exact HR0.out|(with_reducible refine Kd.aqk ?_ _)|(with_reducible refine Kd.aqz ?_ _)|(with_reducible refine Kd.atq ?_)));(case side2=>exact HC0.out);rintro e w11 ⟨v189,rfl,ho0,hb⟩;refine⟨_,rfl,?_⟩;have n0_:=Qz.k (Kd.aiq ho0 (afq au_));have n1_:=Qz.k (aaz au_ hb);clear HB;have HO190:=n0_;have HB:=n1_;clear n0_ n1_;(try clear hb);(try clear hb2);(try clear hk);(try clear hi);(try clear ho0)))
    go_ret2
    exact⟨_,by first|rfl|(simp [aek,aeq] <;> rfl)|(simp [*,aek,aeq] <;> rfl),by(with_reducible repeat(first|apply Kd.akq|apply Kd.akk|apply Kd.amz));exact HO190.out,au_⟩
   ·rw [if_neg c9]at H
    have c9b0:(a1 == 4)=false:=beq_eq_false_iff_ne.mpr c9
    have c9b1:(a1 != 4)=true:=bne_iff_ne.mpr c9
    have H':=Qz.k H
    clear H
    go_enter Tryz.func149,Tryz.ntmps149
    go_wp2
    go_loopg [6,30] k (fun kq v6 v30 w'=>∃ (x6_1:List Int) (x30_1:Int),v30=.int .i64 x30_1∧Qz (intcodec_tail.l0 kq x6_1 l0 (l0.length:Int) x30_1=some (r1,r2))∧Qz (kq≤k)∧Qz (Kd.R (Kd.int .u8) 5 w' w.heap.size (fun _=>True) v6 x6_1)∧Qz (Below w.heap.size w w'))
    case atStart=>exact⟨(([]:List Int)),(0),(by first|rfl|(simp;done)|(simp [*];done)),H',⟨Nat.le_refl _⟩,⟨by first|exact Kd.ayz _ _ _ _ _|exact Kd.baz _ _ _ _ _|exact Kd.a9z _ _ _ _ _|exact Kd.a9k _ _ _ _ _|exact Kd.a9q _ _ _ _ _⟩,⟨au_⟩⟩
    case round=>
     clear H'
     try clear c1
     try clear p2
     try clear c3
     try clear c3b0
     try clear c3b1
     try clear c6
     try clear c6b0
     try clear c6b1
     try clear c9
     try clear c9b0
     try clear c9b1
     obtain⟨x6_1,x30_1,rfl,HA,HK1,HO_6,HB⟩:=hrel
     cases gk with
     |zero=>exact absurd HA.out (by simp [intcodec_tail.l0])
     |succ k1=>
      have H:=HA.out
      clear HA
      simp only [intcodec_tail.l0]at H
      by_cases c12:x30_1<(l0.length:Int)
      ·rw [if_pos c12]at H
       have c12b0:decide (x30_1<(l0.length:Int))=true:=decide_eq_true c12
       clear c12
       by_cases c13:0≤x30_1
       ·rw [if_pos c13]at H
        have c13b0:decide (0≤x30_1)=true:=decide_eq_true c13
        clear c13
        by_cases c14:x30_1<(l0.length:Int)
        ·rw [if_pos c14]at H
         have c14b0:decide (x30_1<(l0.length:Int))=true:=decide_eq_true c14
         clear c14
         replace H:=Option.bind_eq_some_iff.mp H
         obtain⟨t192,A150,H⟩:=H
         replace H:(if x6_1.length+t192.length<140737488355328 then(intcodec_tail.l0 k1 (x6_1++t192) l0 (l0.length:Int) (wrap64 (x30_1+1)))else(none))=some (r1,r2):=H
         have A15:=Qz.k A150
         clear A150
         by_cases c16:x6_1.length+t192.length<140737488355328
         ·rw [if_pos c16]at H
          have LMc16:=Qz.k c16
          clear c16
          obtain⟨y195,hy195⟩:∃ y_:List Int,y_=(x6_1++t192):=⟨_,rfl⟩
          replace H:(intcodec_tail.l0 k1 y195 l0 (l0.length:Int) (wrap64 (x30_1+1)))=some (r1,r2):=by first|(rw [hy195];with_reducible exact H)|(have H2_:=(Option.bind_some _ _).symm.trans H;rw [hy195];with_reducible exact H2_)|(have H2_:=(Option.bind_some _ _).symm.trans H;with_reducible exact H2_)|with_reducible exact H|(rw [hy195];exact H)|exact H
          have Ny195:=Qz.k hy195
          clear hy195
          have H':=Qz.k H
          clear H
          have p191:0≤(x30_1:Int):=of_decide_eq_true (by first|(with_reducible assumption)|assumption)
          have q191:x30_1<(l0.length:Int):=of_decide_eq_true (by first|(with_reducible assumption)|assumption)
          obtain⟨ad191,e191,hx191_0⟩:=Kd.asz HR0.out x30_1 p191 q191
          cases e191
          replace hx191_0:=(HB.out.cell (World.block_lt_of_cell? w _ hx191_0)).trans hx191_0
          replace p191:=eq_true p191
          replace q191:=eq_true q191
          go_wp2_with (first|((with_reducible refine aiz (f:=43) rfl ?_);refine asq (some 36) rfl rfl Tryz.func43 (by kernel_rfl) rfl #[.slice none 0 0,.int .u64 (rd l0 x30_1)] rfl (by(try simp only [List.map_toArray,List.map_cons,List.map_nil]);first|done|rfl|(simp only [List.length_drop,List.length_take];rfl)) ?_;(refine(varint_Append.calls k1 _ _ ([]:List Int) (rd l0 x30_1) t192 _ ?side1 ?side2 A15.out).mono ?_);(case side1=>exact Kd.a7q _ _);(case side2=>exact Nat.le_refl _);rintro e w17 ⟨v193,rfl,ho0,hb⟩;refine⟨_,rfl,?_⟩;have n0_:=Qz.k (Kd.aHk (al_ HO_6.out) (Kd.aRz ho0) hb);have n1_:=Qz.k (Kd.aiq (Kd.aYq ho0 (Kd.R_lt (al_ HO_6.out))) (afq au_));have n2_:=Qz.k (aaz au_ hb);clear HO_6;clear HB;have HO_6:=n0_;have HO194:=n1_;have HB:=n2_;clear n0_ n1_ n2_;(try clear hb);(try clear hb2);(try clear hk);(try clear hi);(try clear ho0);obtain⟨Ao19,co19,eo19⟩:=Kd.afz HO194.out;subst eo19)|((with_reducible refine agk (b := .append) (xs:=#[.tmp 34,.tmp 36]) rfl ?_);at_builtin;refine Kd.ahq (Kd.int .u8) (w0:=w) w.heap.size rfl (.tmp 34) (.tmp 36) 27 5 (.int .u8 0) 1 rfl Tryz.underlying27 info5 rfl (by decide) (by omega) u6 x6_1 t192 _ _ _ (fun k_=>some k_≠(.slice Ao19 t192.length co19:Value).ownBlock) (fun _=>False) rfl rfl ?aO ?aR (fun _ _ h=>h) (fun _ h=>h.elim) ?aF ?aB ?aS ?aL ?_;(case aR=>repeat(first|exact(Kd.ack HO194.out).2.2|(with_reducible refine Kd.aqk ?_ _)|(with_reducible refine Kd.aqz ?_ _)|(with_reducible refine Kd.atq ?_)));(case aB=>exact au_);(case aF=>exact(fun k_ hk=>Kd.fresh' (Kd.R_lt (al_ HO194.out)) k_ hk));(case aO=>exact(by(with_reducible repeat(first|apply Kd.akq|apply Kd.akk|apply Kd.amz));exact Kd.R_mono HO_6.out (fun _ hk=>hk.2)));(case aS=>exact(afq au_));(case aL=>have:=LMc16.out;omega);intro v196 w18 ho hb hg hat;rw [←Ny195.out]at ho;have n0_:=Qz.k (Kd.boz (ok:=(fun _=>True)) (al_ HO194.out) hg hat);have n1_:=Qz.k (hb);have n2_:=Qz.k (ho);clear HO194;clear HB;clear HO_6;have HO194:=n0_;have HB:=n1_;have HO197:=n2_;clear n0_ n1_ n2_;clear ho hb hg hat))
          go_roundg k1
          case measure=>have:=HK1.out;omega
          case rel=>exact⟨(y195),(wrap64 (x30_1+1)),(by first|rfl|(simp;done)|(simp [*];done)),H',⟨by have:=HK1.out;omega⟩,⟨by(with_reducible repeat(first|apply Kd.akq|apply Kd.akk|apply Kd.amz));exact Kd.R_mono HO197.out (fun _ hk=>trivial)⟩,⟨au_⟩⟩
         ·rw [if_neg c16]at H
          exact absurd H (by simp)
        ·rw [if_neg c14]at H
         exact absurd H (by simp)
       ·rw [if_neg c13]at H
        exact absurd H (by simp)
      ·rw [if_neg c12]at H
       have c12b0:decide (x30_1<(l0.length:Int))=false:=decide_eq_false c12
       clear c12
       simp only [Option.some.injEq,Prod.mk.injEq]at H
       obtain⟨rfl,rfl⟩:=H
       go_wp2
       go_ret2
       exact⟨_,by first|rfl|(simp [aek,aeq] <;> rfl)|(simp [*,aek,aeq] <;> rfl),by(with_reducible repeat(first|apply Kd.akq|apply Kd.akk|apply Kd.amz));exact HO_6.out,au_⟩
mutual
def intcodec_Way.j0 : Nat→List Int→Int→Bool→Option (List Int×Int)
 | 0,_,_,_=>none
 |k+1,x0,x1,x17=>if x17=true then(some (([]:List Int),1))else(if(x0.length:Int) > 65536 then(some (([]:List Int),4))else(if(x0.length:Int)=0 then(some (([]:List Int),0))else((intcodec_often.f x1).bind fun t198=>((delta_Diff.f x0 t198).bind fun bt199=>(if x1=0 then(intcodec_Way.l0 k ([]:List Int) bt199.1 (bt199.1.length:Int) 0)else(if 0≤(bt199.1.length:Int)then(if((bt199.1.length:Int):Int).toNat≤35184372088832 then(intcodec_Way.l1 k x1 (List.replicate ((bt199.1.length:Int):Int).toNat 0) bt199.1 (bt199.1.length:Int) 0)else(none))else(none)))))))
def intcodec_Way.l0 : Nat→List Int→List Int→Int→Int→Option (List Int×Int)
 | 0,_,_,_,_=>none
 |k+1,x8,x41,x42,x43=>if x43<x42 then(if 0≤x43 then(if x43<(x41.length:Int)then((cursor_Fix.f k (IntKind.u64.wrap (rd x41 x43)) 8).bind fun t204=>(if x8.length+t204.length<140737488355328 then(intcodec_Way.l0 k (x8++t204) x41 x42 (wrap64 (x43+1)))else(none)))else(none))else(none))else(some (x8,0))
def intcodec_Way.l1 : Nat→Int→List Int→List Int→Int→Int→Option (List Int×Int)
 | 0,_,_,_,_,_=>none
 |k+1,x1,x11,x57,x58,x59=>if x59<x58 then(if 0≤x59 then(if x59<(x57.length:Int)then((varint_Zig.f (rd x57 x59)).bind fun t214=>(if x59<(x11.length:Int)then(intcodec_Way.l1 k x1 (x11.set (x59:Int).toNat t214) x57 x58 (wrap64 (x59+1)))else(none)))else(none))else(none))else(if 0<(x11.length:Int)then((varint_Append.f k ([]:List Int) (rd x11 0)).bind fun t217=>(if 1≤(x11.length:Int)then((intcodec_tail.f k (x11.drop 1) x1).bind fun bt224=>(if bt224.2=0 then(if t217.length+bt224.1.length<140737488355328 then(some ((t217++bt224.1),0))else(none))else(some (([]:List Int),bt224.2))))else(none)))else(none))
end
def intcodec_Way.f (k:Nat)(l0:List Int)(a1:Int):Option (List Int×Int):=if a1<0 then(intcodec_Way.j0 k l0 a1 true)else(intcodec_Way.j0 k l0 a1 (decide (a1≥5)))
theorem intcodec_Way.atz : ∀ k,(∀ y0 y1 y2,LeO (intcodec_Way.j0 k y0 y1 y2) (intcodec_Way.j0 (k+1) y0 y1 y2))∧(∀ y0 y1 y2 y3,LeO (intcodec_Way.l0 k y0 y1 y2 y3) (intcodec_Way.l0 (k+1) y0 y1 y2 y3))∧(∀ y0 y1 y2 y3 y4,LeO (intcodec_Way.l1 k y0 y1 y2 y3 y4) (intcodec_Way.l1 (k+1) y0 y1 y2 y3 y4))
 | 0=>⟨fun _ _ _ r h=>by simp [intcodec_Way.j0]at h,fun _ _ _ _ r h=>by simp [intcodec_Way.l0]at h,fun _ _ _ _ _ r h=>by simp [intcodec_Way.l1]at h⟩
 |k+1=>by
  obtain⟨ih0,ih1,ih2⟩:=intcodec_Way.atz k
  refine⟨?_,?_,?_⟩
  ·intro y0 y1 y2
   unfold intcodec_Way.j0
   repeat' first
   |(with_reducible exact ih0 _ _ _)
   |(with_reducible exact ih1 _ _ _ _)
   |(with_reducible exact ih2 _ _ _ _ _)
   |(with_reducible exact cursor_Fix.mono _ _ _)
   |(with_reducible exact intcodec_tail.mono _ _ _)
   |(with_reducible exact varint_Append.mono _ _ _)
   |(with_reducible exact LeO.refl _)
   |(with_reducible exact LeO.none _)
   |(with_reducible refine LeO.ite ?_ ?_)
   |(with_reducible refine LeO.bind ?_ (fun _=>?_))
   |exact ih0 _ _ _
   |exact ih1 _ _ _ _
   |exact ih2 _ _ _ _ _
   |exact cursor_Fix.mono _ _ _
   |exact intcodec_tail.mono _ _ _
   |exact varint_Append.mono _ _ _
   |exact LeO.none _
   |refine LeO.ite ?_ ?_
   |refine LeO.bind ?_ (fun _=>?_)
  ·intro y0 y1 y2 y3
   unfold intcodec_Way.l0
   repeat' first
   |(with_reducible exact ih0 _ _ _)
   |(with_reducible exact ih1 _ _ _ _)
   |(with_reducible exact ih2 _ _ _ _ _)
   |(with_reducible exact cursor_Fix.mono _ _ _)
   |(with_reducible exact intcodec_tail.mono _ _ _)
   |(with_reducible exact varint_Append.mono _ _ _)
   |(with_reducible exact LeO.refl _)
   |(with_reducible exact LeO.none _)
   |(with_reducible refine LeO.ite ?_ ?_)
   |(with_reducible refine LeO.bind ?_ (fun _=>?_))
   |exact ih0 _ _ _
   |exact ih1 _ _ _ _
   |exact ih2 _ _ _ _ _
   |exact cursor_Fix.mono _ _ _
   |exact intcodec_tail.mono _ _ _
   |exact varint_Append.mono _ _ _
   |exact LeO.none _
   |refine LeO.ite ?_ ?_
   |refine LeO.bind ?_ (fun _=>?_)
  ·intro y0 y1 y2 y3 y4
   unfold intcodec_Way.l1
   repeat' first
   |(with_reducible exact ih0 _ _ _)
   |(with_reducible exact ih1 _ _ _ _)
   |(with_reducible exact ih2 _ _ _ _ _)
   |(with_reducible exact cursor_Fix.mono _ _ _)
   |(with_reducible exact intcodec_tail.mono _ _ _)
   |(with_reducible exact varint_Append.mono _ _ _)
   |(with_reducible exact LeO.refl _)
   |(with_reducible exact LeO.none _)
   |(with_reducible refine LeO.ite ?_ ?_)
   |(with_reducible refine LeO.bind ?_ (fun _=>?_))
   |exact ih0 _ _ _
   |exact ih1 _ _ _ _
   |exact ih2 _ _ _ _ _
   |exact cursor_Fix.mono _ _ _
   |exact intcodec_tail.mono _ _ _
   |exact varint_Append.mono _ _ _
   |exact LeO.none _
   |refine LeO.ite ?_ ?_
   |refine LeO.bind ?_ (fun _=>?_)
theorem intcodec_Way.mono : ∀ a0 a1 k,LeO (intcodec_Way.f k a0 a1) (intcodec_Way.f (k+1) a0 a1):=by
 intro a0 a1 k
 obtain⟨ih0,ih1,ih2⟩:=intcodec_Way.atz k
 unfold intcodec_Way.f
 repeat' first
   |(with_reducible exact ih0 _ _ _)
   |(with_reducible exact ih1 _ _ _ _)
   |(with_reducible exact ih2 _ _ _ _ _)
   |(with_reducible exact cursor_Fix.mono _ _ _)
   |(with_reducible exact intcodec_tail.mono _ _ _)
   |(with_reducible exact varint_Append.mono _ _ _)
   |(with_reducible exact LeO.refl _)
   |(with_reducible exact LeO.none _)
   |(with_reducible refine LeO.ite ?_ ?_)
   |(with_reducible refine LeO.bind ?_ (fun _=>?_))
   |exact ih0 _ _ _
   |exact ih1 _ _ _ _
   |exact ih2 _ _ _ _ _
   |exact cursor_Fix.mono _ _ _
   |exact intcodec_tail.mono _ _ _
   |exact varint_Append.mono _ _ _
   |exact LeO.none _
   |refine LeO.ite ?_ ?_
   |refine LeO.bind ?_ (fun _=>?_)
set_option maxHeartbeats 8000000 in
theorem intcodec_Way.calls (k:Nat)(A0:Option Addr)(c0:Nat)(l0:List Int)(a1:Int)(r1:List Int)(r2:Int)(w:World)(hr0:Kd.C (Kd.int .i64) w A0 l0.length l0)(hc0:l0.length≤c0)(h:intcodec_Way.f k l0 a1=some (r1,r2)) :
  Calls Tryz.prog 83 #[.slice A0 l0.length c0,.int .i64 a1] w fun e w'=>∃ v0_:Value,e=.returned (.tuple #[v0_,.int .i64 r2])∧Kd.R (Kd.int .u8) 5 w' w.heap.size (fun _=>True) v0_ r1∧Below w.heap.size w w':=by
 have HR0:=Qz.k hr0
 have HC0:=Qz.k hc0
 clear hr0 hc0
 have HB:=Qz.k (Below.refl w.heap.size w)
 have H:(if a1<0 then(intcodec_Way.j0 k l0 a1 true)else(intcodec_Way.j0 k l0 a1 (decide (a1≥5))))=some (r1,r2):=h
 clear h
 have HC3:=Qz.k H
 clear H
 go_enter Tryz.func83,Tryz.ntmps83
 go_upto_region 1 with(fail)
 go_cut [17] (fun v17 wc=>∃ (kq:Nat) (x17_2:Bool),v17=.bool x17_2∧Qz (intcodec_Way.j0 kq l0 a1 x17_2=some (r1,r2))∧Qz (kq≤k)∧Qz (Below w.heap.size w wc))
 case first=>
  have H:=HC3.out
  clear HC3
  by_cases c4:a1<0
  ·rw [if_pos c4]at H
   have c4b0:decide (a1<0)=true:=decide_eq_true c4
   clear c4
   (first|rw [c4b0]|(simp only [abq,abk];rw [c4b0])|skip)
   have H':=Qz.k H
   clear H
   go_wp2
   go_meet
   case rel=>exact⟨_,(true),(by first|rfl|(simp;done)|(simp [*];done)),H',⟨by first|omega|exact Nat.le_refl _⟩,⟨au_⟩⟩
  ·rw [if_neg c4]at H
   have c4b0:decide (a1<0)=false:=decide_eq_false c4
   clear c4
   (first|rw [c4b0]|(simp only [abq,abk];rw [c4b0])|skip)
   have H':=Qz.k H
   clear H
   go_wp2
   go_meet
   case rel=>exact⟨_,(decide (a1≥5)),(by first|rfl|(simp;done)|(simp [*];done)),H',⟨by first|omega|exact Nat.le_refl _⟩,⟨au_⟩⟩
 case rest=>
  clear HC3
  try clear p2
  try clear c4
  try clear c4b0
  obtain⟨kq,x17_2,rfl,HA,HJ2,HB⟩:=hcut
  cases kq with
  |zero=>exact absurd HA.out (by simp [intcodec_Way.j0])
  |succ kj2=>
   have H:=HA.out
   clear HA
   simp only [intcodec_Way.j0]at H
   by_cases c5:x17_2=true
   ·subst c5
    have H1:(some (([]:List Int),1))=some (r1,r2):=by rw [if_pos rfl]at H;exact H
    clear H
    have H:=H1
    clear H1
    simp only [Option.some.injEq,Prod.mk.injEq]at H
    obtain⟨rfl,rfl⟩:=H
    go_wp2
    go_ret2
    exact⟨_,by first|rfl|(simp [aek,aeq] <;> rfl)|(simp [*,aek,aeq] <;> rfl),by first|exact Kd.ayz _ _ _ _ _|exact Kd.baz _ _ _ _ _|exact Kd.a9z _ _ _ _ _|exact Kd.a9k _ _ _ _ _|exact Kd.a9q _ _ _ _ _,au_⟩
   ·replace c5:=Bool.eq_false_iff.mpr c5
    subst c5
    have H1:(if(l0.length:Int) > 65536 then(some (([]:List Int),4))else(if(l0.length:Int)=0 then(some (([]:List Int),0))else((intcodec_often.f a1).bind fun t198=>((delta_Diff.f l0 t198).bind fun bt199=>(if a1=0 then(intcodec_Way.l0 kj2 ([]:List Int) bt199.1 (bt199.1.length:Int) 0)else(if 0≤(bt199.1.length:Int)then(if((bt199.1.length:Int):Int).toNat≤35184372088832 then(intcodec_Way.l1 kj2 a1 (List.replicate ((bt199.1.length:Int):Int).toNat 0) bt199.1 (bt199.1.length:Int) 0)else(none))else(none)))))))=some (r1,r2):=by rw [if_neg (show ¬ (false=true)by decide)]at H;exact H
    clear H
    have H:=H1
    clear H1
    by_cases c6:(l0.length:Int) > 65536
    ·rw [if_pos c6]at H
     have c6b0:decide (65536<(l0.length:Int))=true:=decide_eq_true c6
     have c6b1:decide (65536<l0.length)=true:=decide_eq_true (by omega)
     clear c6
     simp only [Option.some.injEq,Prod.mk.injEq]at H
     obtain⟨rfl,rfl⟩:=H
     go_wp2
     go_ret2
     exact⟨_,by first|rfl|(simp [aek,aeq] <;> rfl)|(simp [*,aek,aeq] <;> rfl),by first|exact Kd.ayz _ _ _ _ _|exact Kd.baz _ _ _ _ _|exact Kd.a9z _ _ _ _ _|exact Kd.a9k _ _ _ _ _|exact Kd.a9q _ _ _ _ _,au_⟩
    ·rw [if_neg c6]at H
     have c6b0:decide (65536<(l0.length:Int))=false:=decide_eq_false c6
     have c6b1:decide (65536<l0.length)=false:=decide_eq_false (by omega)
     clear c6
     by_cases c7:(l0.length:Int)=0
     ·rw [if_pos c7]at H
      have c7b0:((l0.length:Int) == 0)=true:=beq_iff_eq.mpr c7
      have c7b1:((l0.length:Int) != 0)=false:=bne_eq_false_iff_eq.mpr c7
      clear c7
      simp only [Option.some.injEq,Prod.mk.injEq]at H
      obtain⟨rfl,rfl⟩:=H
      go_wp2
      go_ret2
      exact⟨_,by first|rfl|(simp [aek,aeq] <;> rfl)|(simp [*,aek,aeq] <;> rfl),by first|exact Kd.ayz _ _ _ _ _|exact Kd.baz _ _ _ _ _|exact Kd.a9z _ _ _ _ _|exact Kd.a9k _ _ _ _ _|exact Kd.a9q _ _ _ _ _,au_⟩
     ·rw [if_neg c7]at H
      have c7b0:((l0.length:Int) == 0)=false:=beq_eq_false_iff_ne.mpr c7
      have c7b1:((l0.length:Int) != 0)=true:=bne_iff_ne.mpr c7
      have c7b2:¬ (l0=[]):=fun h_=>c7 (by rw [h_];rfl)
      replace H:=Option.bind_eq_some_iff.mp H
      obtain⟨t198,A80,H⟩:=H
      replace H:((delta_Diff.f l0 t198).bind fun bt199=>(if a1=0 then(intcodec_Way.l0 kj2 ([]:List Int) bt199.1 (bt199.1.length:Int) 0)else(if 0≤(bt199.1.length:Int)then(if((bt199.1.length:Int):Int).toNat≤35184372088832 then(intcodec_Way.l1 kj2 a1 (List.replicate ((bt199.1.length:Int):Int).toNat 0) bt199.1 (bt199.1.length:Int) 0)else(none))else(none))))=some (r1,r2):=H
      have A8:=Qz.k A80
      clear A80
      replace H:=Option.bind_eq_some_iff.mp H
      obtain⟨⟨t199,t200⟩,A90,H⟩:=H
      replace H:(if a1=0 then(intcodec_Way.l0 kj2 ([]:List Int) t199 (t199.length:Int) 0)else(if 0≤(t199.length:Int)then(if((t199.length:Int):Int).toNat≤35184372088832 then(intcodec_Way.l1 kj2 a1 (List.replicate ((t199.length:Int):Int).toNat 0) t199 (t199.length:Int) 0)else(none))else(none)))=some (r1,r2):=H
      have A9:=Qz.k A90
      clear A90
      by_cases c10:a1=0
      ·rw [if_pos c10]at H
       have c10b0:(a1 == 0)=true:=beq_iff_eq.mpr c10
       have c10b1:(a1 != 0)=false:=bne_eq_false_iff_eq.mpr c10
       clear c10
       have H':=Qz.k H
       clear H
       go_wp2_with (first|((with_reducible refine aiz (f:=147) rfl ?_);refine asq (some 35) rfl rfl Tryz.func147 (by kernel_rfl) rfl #[.int .i64 a1] rfl (by(try simp only [List.map_toArray,List.map_cons,List.map_nil]);first|done|rfl|(simp only [List.length_drop,List.length_take];rfl)) ?_;(with_reducible refine(intcodec_often.calls a1 t198 _ A8.out).mono ?_);rintro e w' ⟨rfl,⟨nd,rfl⟩⟩;refine⟨_,rfl,?_⟩)|((with_reducible refine aiz (f:=146) rfl ?_);refine asq (some 36) rfl rfl Tryz.func146 (by kernel_rfl) rfl #[.slice A0 l0.length c0,.int .i64 t198] rfl (by(try simp only [List.map_toArray,List.map_cons,List.map_nil]);first|done|rfl|(simp only [List.length_drop,List.length_take];rfl)) ?_;(with_reducible refine(delta_Diff.calls _ _ l0 t198 t199 t200 _ ?side1 ?side2 A9.out).mono ?_);(case side1=>repeat(first|exact(Kd.acz HR0.out au_)|(with_reducible refine Kd.aqk ?_ _)|(with_reducible refine Kd.aqz ?_ _)|(with_reducible refine Kd.atq ?_)));(case side2=>exact HC0.out);rintro e w11 ⟨v201,rfl,ho0,hb⟩;refine⟨_,rfl,?_⟩;have n0_:=Qz.k (Kd.aiq ho0 (afq au_));have n1_:=Qz.k (aaz au_ hb);clear HB;have HO202:=n0_;have HB:=n1_;clear n0_ n1_;(try clear hb);(try clear hb2);(try clear hk);(try clear hi);(try clear ho0);obtain⟨Ao12,co12,eo12⟩:=Kd.afz HO202.out;subst eo12))
       go_loopg [8,43] kj2 (fun kq v8 v43 w'=>∃ (x8_2:List Int) (x43_2:Int),v43=.int .i64 x43_2∧Qz (intcodec_Way.l0 kq x8_2 t199 (t199.length:Int) x43_2=some (r1,r2))∧Qz (kq≤kj2)∧Qz (Kd.R (Kd.int .u8) 5 w' w.heap.size (fun _=>True) v8 x8_2)∧Qz (Kd.R (Kd.int .i64) 3 w' w.heap.size (fun _=>True) (.slice Ao12 t199.length co12) t199)∧Qz (Below w.heap.size w w'))
       case atStart=>exact⟨(([]:List Int)),(0),(by first|rfl|(simp;done)|(simp [*];done)),H',⟨Nat.le_refl _⟩,⟨by first|exact Kd.ayz _ _ _ _ _|exact Kd.baz _ _ _ _ _|exact Kd.a9z _ _ _ _ _|exact Kd.a9k _ _ _ _ _|exact Kd.a9q _ _ _ _ _⟩,⟨by(with_reducible repeat(first|apply Kd.akq|apply Kd.akk|apply Kd.amz));exact HO202.out⟩,⟨au_⟩⟩
       case round=>
        clear H'
        try clear c1
        try clear p2
        try clear c4
        try clear c4b0
        try clear c5
        try clear c6
        try clear c6b0
        try clear c6b1
        try clear c7
        try clear c7b0
        try clear c7b1
        try clear c7b2
        try clear c8
        try clear c10
        try clear c10b0
        try clear c10b1
        try clear p2
        obtain⟨x8_2,x43_2,rfl,HA,HK2,HO_8,HO_41,HB⟩:=hrel
        cases gk with
        |zero=>exact absurd HA.out (by simp [intcodec_Way.l0])
        |succ k2=>
         have H:=HA.out
         clear HA
         simp only [intcodec_Way.l0]at H
         by_cases c13:x43_2<(t199.length:Int)
         ·rw [if_pos c13]at H
          have c13b0:decide (x43_2<(t199.length:Int))=true:=decide_eq_true c13
          clear c13
          by_cases c14:0≤x43_2
          ·rw [if_pos c14]at H
           have c14b0:decide (0≤x43_2)=true:=decide_eq_true c14
           clear c14
           by_cases c15:x43_2<(t199.length:Int)
           ·rw [if_pos c15]at H
            have c15b0:decide (x43_2<(t199.length:Int))=true:=decide_eq_true c15
            clear c15
            replace H:=Option.bind_eq_some_iff.mp H
            obtain⟨t204,A160,H⟩:=H
            replace H:(if x8_2.length+t204.length<140737488355328 then(intcodec_Way.l0 k2 (x8_2++t204) t199 (t199.length:Int) (wrap64 (x43_2+1)))else(none))=some (r1,r2):=H
            have A16:=Qz.k A160
            clear A160
            by_cases c17:x8_2.length+t204.length<140737488355328
            ·rw [if_pos c17]at H
             have LMc17:=Qz.k c17
             clear c17
             obtain⟨y207,hy207⟩:∃ y_:List Int,y_=(x8_2++t204):=⟨_,rfl⟩
             replace H:(intcodec_Way.l0 k2 y207 t199 (t199.length:Int) (wrap64 (x43_2+1)))=some (r1,r2):=by first|(rw [hy207];with_reducible exact H)|(have H2_:=(Option.bind_some _ _).symm.trans H;rw [hy207];with_reducible exact H2_)|(have H2_:=(Option.bind_some _ _).symm.trans H;with_reducible exact H2_)|with_reducible exact H|(rw [hy207];exact H)|exact H
             have Ny207:=Qz.k hy207
             clear hy207
             have H':=Qz.k H
             clear H
             have p203:0≤(x43_2:Int):=of_decide_eq_true (by first|(with_reducible assumption)|assumption)
             have q203:x43_2<(t199.length:Int):=of_decide_eq_true (by first|(with_reducible assumption)|assumption)
             obtain⟨ad203,e203,hx203_0⟩:=Kd.asz (Kd.ack HO_41.out).2.2 x43_2 p203 q203
             cases e203
             replace p203:=eq_true p203
             replace q203:=eq_true q203
             go_wp2_with (first|((with_reducible refine aiz (f:=96) rfl ?_);refine asq (some 50) rfl rfl Tryz.func96 (by kernel_rfl) rfl #[.int .u64 (IntKind.u64.wrap (rd t199 x43_2)),.int .i64 8] rfl (by(try simp only [List.map_toArray,List.map_cons,List.map_nil]);first|done|rfl|(simp only [List.length_drop,List.length_take];rfl)) ?_;(with_reducible refine(cursor_Fix.calls k2 (IntKind.u64.wrap (rd t199 x43_2)) 8 t204 _ A16.out).mono ?_);rintro e w18 ⟨v205,rfl,ho0,hb⟩;refine⟨_,rfl,?_⟩;have n0_:=Qz.k (Kd.aHk (al_ HO_8.out) (Kd.aRz ho0) hb);have n1_:=Qz.k (Kd.ahz (al_ HO_41.out) hb);have n2_:=Qz.k (Kd.aiq (Kd.aYq ho0 (Kd.R_lt (al_ HO_8.out))) (afq au_));have n3_:=Qz.k (aaz au_ hb);clear HO_8;clear HO_41;clear HB;have HO_8:=n0_;have HO_41:=n1_;have HO206:=n2_;have HB:=n3_;clear n0_ n1_ n2_ n3_;(try clear hb);(try clear hb2);(try clear hk);(try clear hi);(try clear ho0);obtain⟨Ao20,co20,eo20⟩:=Kd.afz HO206.out;subst eo20)|((with_reducible refine agk (b := .append) (xs:=#[.tmp 47,.tmp 50]) rfl ?_);at_builtin;refine Kd.ahq (Kd.int .u8) (w0:=w) w.heap.size rfl (.tmp 47) (.tmp 50) 27 5 (.int .u8 0) 1 rfl Tryz.underlying27 info5 rfl (by decide) (by omega) u8 x8_2 t204 _ _ _ (fun k_=>some k_≠(.slice Ao20 t204.length co20:Value).ownBlock) (fun _=>False) rfl rfl ?aO ?aR (fun _ _ h=>h) (fun _ h=>h.elim) ?aF ?aB ?aS ?aL ?_;(case aR=>repeat(first|exact(Kd.ack HO206.out).2.2|(with_reducible refine Kd.aqk ?_ _)|(with_reducible refine Kd.aqz ?_ _)|(with_reducible refine Kd.atq ?_)));(case aB=>exact au_);(case aF=>exact(fun k_ hk=>Kd.fresh' (Kd.R_lt (al_ HO206.out)) k_ hk));(case aO=>exact(by(with_reducible repeat(first|apply Kd.akq|apply Kd.akk|apply Kd.amz));exact Kd.R_mono HO_8.out (fun _ hk=>hk.2)));(case aS=>exact(afq au_));(case aL=>have:=LMc17.out;omega);intro v208 w19 ho hb hg hat;rw [←Ny207.out]at ho;have n0_:=Qz.k (Kd.bfq (al_ HO_41.out) (Kd.aJz (al_ HO_8.out)) (by decide) hg);have n1_:=Qz.k (Kd.boz (ok:=(fun _=>True)) (al_ HO206.out) hg hat);have n2_:=Qz.k (hb);have n3_:=Qz.k (ho);clear HO_41;clear HO206;clear HB;clear HO_8;have HO_41:=n0_;have HO206:=n1_;have HB:=n2_;have HO209:=n3_;clear n0_ n1_ n2_ n3_;clear ho hb hg hat))
             go_roundg k2
             case measure=>have:=HJ2.out;have:=HK2.out;omega
             case rel=>exact⟨(y207),(wrap64 (x43_2+1)),(by first|rfl|(simp;done)|(simp [*];done)),H',⟨by have:=HJ2.out;have:=HK2.out;omega⟩,⟨by(with_reducible repeat(first|apply Kd.akq|apply Kd.akk|apply Kd.amz));exact Kd.R_mono HO209.out (fun _ hk=>trivial)⟩,⟨by(with_reducible repeat(first|apply Kd.akq|apply Kd.akk|apply Kd.amz));exact HO_41.out⟩,⟨au_⟩⟩
            ·rw [if_neg c17]at H
             exact absurd H (by simp)
           ·rw [if_neg c15]at H
            exact absurd H (by simp)
          ·rw [if_neg c14]at H
           exact absurd H (by simp)
         ·rw [if_neg c13]at H
          have c13b0:decide (x43_2<(t199.length:Int))=false:=decide_eq_false c13
          clear c13
          simp only [Option.some.injEq,Prod.mk.injEq]at H
          obtain⟨rfl,rfl⟩:=H
          go_wp2
          go_ret2
          exact⟨_,by first|rfl|(simp [aek,aeq] <;> rfl)|(simp [*,aek,aeq] <;> rfl),by(with_reducible repeat(first|apply Kd.akq|apply Kd.akk|apply Kd.amz));exact HO_8.out,au_⟩
      ·rw [if_neg c10]at H
       have c10b0:(a1 == 0)=false:=beq_eq_false_iff_ne.mpr c10
       have c10b1:(a1 != 0)=true:=bne_iff_ne.mpr c10
       by_cases c21:0≤(t199.length:Int)
       ·rw [if_pos c21]at H
        have c21b0:=eq_true c21
        have c21b1:decide (0≤(t199.length:Int))=true:=decide_eq_true c21
        clear c21
        by_cases c22:((t199.length:Int):Int).toNat≤35184372088832
        ·rw [if_pos c22]at H
         have c22b0:=eq_true c22
         have c22b1:decide (((t199.length:Int):Int).toNat≤35184372088832)=true:=decide_eq_true c22
         clear c22
         obtain⟨y210,hy210⟩:∃ y_:List Int,y_=(List.replicate ((t199.length:Int):Int).toNat 0):=⟨_,rfl⟩
         replace H:(intcodec_Way.l1 kj2 a1 y210 t199 (t199.length:Int) 0)=some (r1,r2):=by first|(rw [hy210];with_reducible exact H)|(have H2_:=(Option.bind_some _ _).symm.trans H;rw [hy210];with_reducible exact H2_)|(have H2_:=(Option.bind_some _ _).symm.trans H;with_reducible exact H2_)|with_reducible exact H|(rw [hy210];exact H)|exact H
         have Ny210:=Qz.k hy210
         clear hy210
         have H':=Qz.k H
         clear H
         go_wp2_with (first|((with_reducible refine aiz (f:=147) rfl ?_);refine asq (some 35) rfl rfl Tryz.func147 (by kernel_rfl) rfl #[.int .i64 a1] rfl (by(try simp only [List.map_toArray,List.map_cons,List.map_nil]);first|done|rfl|(simp only [List.length_drop,List.length_take];rfl)) ?_;(with_reducible refine(intcodec_often.calls a1 t198 _ A8.out).mono ?_);rintro e w' ⟨rfl,⟨nd,rfl⟩⟩;refine⟨_,rfl,?_⟩)|((with_reducible refine aiz (f:=146) rfl ?_);refine asq (some 36) rfl rfl Tryz.func146 (by kernel_rfl) rfl #[.slice A0 l0.length c0,.int .i64 t198] rfl (by(try simp only [List.map_toArray,List.map_cons,List.map_nil]);first|done|rfl|(simp only [List.length_drop,List.length_take];rfl)) ?_;(with_reducible refine(delta_Diff.calls _ _ l0 t198 t199 t200 _ ?side1 ?side2 A9.out).mono ?_);(case side1=>repeat(first|exact(Kd.acz HR0.out au_)|(with_reducible refine Kd.aqk ?_ _)|(with_reducible refine Kd.aqz ?_ _)|(with_reducible refine Kd.atq ?_)));(case side2=>exact HC0.out);rintro e w23 ⟨v201,rfl,ho0,hb⟩;refine⟨_,rfl,?_⟩;have n0_:=Qz.k (Kd.aiq ho0 (afq au_));have n1_:=Qz.k (aaz au_ hb);clear HB;have HO202:=n0_;have HB:=n1_;clear n0_ n1_;(try clear hb);(try clear hb2);(try clear hk);(try clear hi);(try clear ho0);obtain⟨Ao24,co24,eo24⟩:=Kd.afz HO202.out;subst eo24)|((with_reducible refine ahk (N:=56) rfl ?_);refine Kd.bSq (Kd.int .u64) _ 22 rfl (N:=56) rfl 81 _ _ rfl (t199.length:Int) rfl rfl Tryz.underlying81 (.int .u64 0) 8 bNq rfl (by decide) (by omega) 0 (ok:=fun _=>True) (okp:=fun _=>True) rfl (fun _ hk=>hk) trivial (of_decide_eq_true (by first|(with_reducible assumption)|assumption)) (Nat.le_trans (Nat.mul_le_mul_right _ (of_decide_eq_true (by first|(with_reducible assumption)|assumption):(t199.length:Int).toNat≤35184372088832)) (by omega)) (Below.refl _ _) (Nat.le_refl _) ?_;intro v211 w25 ho26 hb hg_ hnew_;clear hg_ hnew_;(first|rw [←Ny210.out]at ho26|(simp only [Int.reduceToNat]at ho26;rw [←Ny210.out]at ho26));have n0_:=Qz.k (Kd.ahz (al_ HO202.out) hb);have n1_:=Qz.k (Kd.aiq ho26 (afq au_));have n2_:=Qz.k (aaz au_ hb);clear HO202;clear HB;have HO202:=n0_;have HO212:=n1_;have HB:=n2_;clear n0_ n1_ n2_;clear hb ho26))
         go_loopg [59] kj2 (fun kq v59 w'=>∃ (x11_2:List Int) (x59_2:Int),v59=.int .i64 x59_2∧Qz (intcodec_Way.l1 kq a1 x11_2 t199 (t199.length:Int) x59_2=some (r1,r2))∧Qz (kq≤kj2)∧Qz (Kd.R (Kd.int .u64) 22 w' w.heap.size (fun _=>True) v211 x11_2)∧Qz (Kd.R (Kd.int .i64) 3 w' w.heap.size (fun _=>True) (.slice Ao24 t199.length co24) t199)∧Qz (Below w.heap.size w w'))
         case atStart=>exact⟨(y210),(0),(by first|rfl|(simp;done)|(simp [*];done)),H',⟨Nat.le_refl _⟩,⟨by(with_reducible repeat(first|apply Kd.akq|apply Kd.akk|apply Kd.amz));exact HO212.out⟩,⟨by(with_reducible repeat(first|apply Kd.akq|apply Kd.akk|apply Kd.amz));exact HO202.out⟩,⟨au_⟩⟩
         case round=>
          clear H'
          try clear c1
          try clear c2
          try clear p2
          try clear q2
          try clear hx2
          try clear c4
          try clear c4b0
          try clear c5
          try clear c6
          try clear c6b0
          try clear c6b1
          try clear p6
          try clear c7
          try clear c7b0
          try clear c7b1
          try clear c7b2
          try clear c8
          try clear c9
          try clear c10
          try clear c10b0
          try clear c10b1
          try clear c13
          try clear c13b0
          try clear c14
          try clear c14b0
          try clear c15
          try clear c15b0
          try clear c17
          try clear p20
          try clear q20
          try clear hx20
          try clear c21
          try clear c21b0
          try clear c21b1
          try clear c22
          try clear c22b0
          try clear c22b1
          try clear hx203_0
          try clear p2
          try clear p203
          try clear q203
          obtain⟨x11_2,x59_2,rfl,HA,HK2,HO_11,HO_57,HB⟩:=hrel
          cases gk with
          |zero=>exact absurd HA.out (by simp [intcodec_Way.l1])
          |succ k2=>
           have H:=HA.out
           clear HA
           simp only [intcodec_Way.l1]at H
           by_cases c27:x59_2<(t199.length:Int)
           ·rw [if_pos c27]at H
            have c27b0:decide (x59_2<(t199.length:Int))=true:=decide_eq_true c27
            clear c27
            by_cases c28:0≤x59_2
            ·rw [if_pos c28]at H
             have c28b0:decide (0≤x59_2)=true:=decide_eq_true c28
             clear c28
             by_cases c29:x59_2<(t199.length:Int)
             ·rw [if_pos c29]at H
              have c29b0:decide (x59_2<(t199.length:Int))=true:=decide_eq_true c29
              clear c29
              replace H:=Option.bind_eq_some_iff.mp H
              obtain⟨t214,A300,H⟩:=H
              replace H:(if x59_2<(x11_2.length:Int)then(intcodec_Way.l1 k2 a1 (x11_2.set (x59_2:Int).toNat t214) t199 (t199.length:Int) (wrap64 (x59_2+1)))else(none))=some (r1,r2):=H
              have A30:=Qz.k A300
              clear A300
              by_cases c31:x59_2<(x11_2.length:Int)
              ·rw [if_pos c31]at H
               have c31b0:decide (x59_2<(x11_2.length:Int))=true:=decide_eq_true c31
               clear c31
               obtain⟨y215,hy215⟩:∃ y_:List Int,y_=(x11_2.set (x59_2:Int).toNat t214):=⟨_,rfl⟩
               replace H:(intcodec_Way.l1 k2 a1 y215 t199 (t199.length:Int) (wrap64 (x59_2+1)))=some (r1,r2):=by first|(rw [hy215];with_reducible exact H)|(have H2_:=(Option.bind_some _ _).symm.trans H;rw [hy215];with_reducible exact H2_)|(have H2_:=(Option.bind_some _ _).symm.trans H;with_reducible exact H2_)|with_reducible exact H|(rw [hy215];exact H)|exact H
               have Ny215:=Qz.k hy215
               clear hy215
               have H':=Qz.k H
               clear H
               have p213:0≤(x59_2:Int):=of_decide_eq_true (by first|(with_reducible assumption)|assumption)
               have q213:x59_2<(t199.length:Int):=of_decide_eq_true (by first|(with_reducible assumption)|assumption)
               obtain⟨ad213,e213,hx213_0⟩:=Kd.asz (Kd.ack HO_57.out).2.2 x59_2 p213 q213
               cases e213
               replace p213:=eq_true p213
               replace q213:=eq_true q213
               go_wp2_with (first|((with_reducible refine aiz (f:=148) rfl ?_);refine asq (some 67) rfl rfl Tryz.func148 (by kernel_rfl) rfl #[.int .i64 (rd t199 x59_2)] rfl (by(try simp only [List.map_toArray,List.map_cons,List.map_nil]);first|done|rfl|(simp only [List.length_drop,List.length_take];rfl)) ?_;(with_reducible refine(varint_Zig.calls (rd t199 x59_2) t214 _ A30.out).mono ?_);rintro e w' ⟨rfl,⟨nd,rfl⟩⟩;refine⟨_,rfl,?_⟩;(try(rw [b2k wr];generalize hq_:World.drewN wr _=wr;have n0_:Qz (Kd.R (Kd.int .u64) 22 wr w.heap.size (fun _=>True) v211 x11_2):=⟨by rw [←hq_];exact(al_ HO_11.out)⟩;have n1_:Qz (Kd.R (Kd.int .i64) 3 wr w.heap.size (fun _=>True) (.slice (some ad213) t199.length co24) t199):=⟨by rw [←hq_];exact(al_ HO_57.out)⟩;have n2_:Qz (Below w.heap.size w wr):=⟨by rw [←hq_];exact au_⟩;clear HO_11 HO_57 HB hq_;have HO_11:=n0_;have HO_57:=n1_;have HB:=n2_;clear n0_ n1_ n2_));have p32:0≤(x59_2:Int):=of_decide_eq_true (by first|(with_reducible assumption)|assumption);have q32:(x59_2:Int)<((x11_2.length:Int):Int):=of_decide_eq_true (by first|(with_reducible assumption)|assumption);obtain⟨go32,co32,eo32,gb32,gl32,cl32,HG32⟩:=Kd.bjz HO_11.out (by omega);(first|cases eo32|(injection eo32 with ea_ en_ ec_;(first|subst ea_|(injection ea_ with ea_;subst ea_));subst ec_;clear en_));have GB32:=Qz.k gb32;have GG32:=Qz.k HG32;clear gb32 gl32 HG32;obtain⟨hx32_0,hf32_0⟩:=Kd.aUq 0 HO_11.out (x59_2:Int) p32 q32;replace p32:=eq_true p32;replace q32:=eq_true q32;obtain⟨hy33_,hz33_⟩:=Kd.aUq 0 HO_11.out (x59_2:Int) (of_decide_eq_true (by first|(with_reducible assumption)|assumption)) (of_decide_eq_true (by first|(with_reducible assumption)|assumption));have HP33:=Kd.R_putg HO_11.out (x59_2:Int) t214)|((with_reducible refine bzz (t:=22) (p:=68) rfl ?_);refine bkk (t:=22) (p:=68) (v:=?vo_w34) (w1:=(wr.setCell ⟨go32,(x59_2:Int).toNat,none⟩ (.int .u64 t214))) ?hg ?ho ?hn ?hr ?_;(case ho=>rfl);(case hg=>rfl);(case hn=>rfl);(case hr=>first|(go_simp;done)|(go_simp;rfl));intro w34 hw;have hg:wr.grownBy w34 (some go32):=(by rw [hw];exact HP33.2);have hp_:Kd.R (Kd.int .u64) 22 w34 w.heap.size (fun _=>True) (.slice (some ⟨go32,0,none⟩) x11_2.length co32) y215:=(by rw [hw,Ny215.out];exact HP33.1);clear HP33;have n0_:=Qz.k (hp_);have n1_:=Qz.k (Kd.bfq (v:=(.slice (some ⟨go32,0,none⟩) x11_2.length co32)) (al_ HO_57.out) (Kd.aJz HO_11.out) (by decide) hg);have n2_:=Qz.k ((by rw [hw];exact adq (HB.out) GB32.out:Below w.heap.size w w34));clear HO_11;clear HO_57;clear HB;have HO_11:=n0_;have HO_57:=n1_;have HB:=n2_;clear n0_ n1_ n2_;clear hg hw hp_))
               go_roundg k2
               case measure=>have:=HJ2.out;have:=HK2.out;omega
               case rel=>exact⟨(y215),(wrap64 (x59_2+1)),(by first|rfl|(simp;done)|(simp [*];done)),H',⟨by have:=HJ2.out;have:=HK2.out;omega⟩,⟨by(with_reducible repeat(first|apply Kd.akq|apply Kd.akk|apply Kd.amz));exact HO_11.out⟩,⟨by(with_reducible repeat(first|apply Kd.akq|apply Kd.akk|apply Kd.amz));exact HO_57.out⟩,⟨au_⟩⟩
              ·rw [if_neg c31]at H
               exact absurd H (by simp)
             ·rw [if_neg c29]at H
              exact absurd H (by simp)
            ·rw [if_neg c28]at H
             exact absurd H (by simp)
           ·rw [if_neg c27]at H
            have c27b0:decide (x59_2<(t199.length:Int))=false:=decide_eq_false c27
            clear c27
            by_cases c35:0<(x11_2.length:Int)
            ·rw [if_pos c35]at H
             have c35b0:decide (0<(x11_2.length:Int))=true:=decide_eq_true c35
             have c35b1:decide (0<x11_2.length)=true:=decide_eq_true (by omega)
             clear c35
             replace H:=Option.bind_eq_some_iff.mp H
             obtain⟨t217,A360,H⟩:=H
             replace H:(if 1≤(x11_2.length:Int)then((intcodec_tail.f k2 (x11_2.drop 1) a1).bind fun bt224=>(if bt224.2=0 then(if t217.length+bt224.1.length<140737488355328 then(some ((t217++bt224.1),0))else(none))else(some (([]:List Int),bt224.2))))else(none))=some (r1,r2):=H
             have A36:=Qz.k A360
             clear A360
             by_cases c37:1≤(x11_2.length:Int)
             ·rw [if_pos c37]at H
              have c37b0:=eq_true c37
              have c37b1:decide (1≤(x11_2.length:Int))=true:=decide_eq_true c37
              clear c37
              obtain⟨y220,hy220⟩:∃ y_:List Int,y_=(x11_2.drop 1):=⟨_,rfl⟩
              replace H:((intcodec_tail.f k2 y220 a1).bind fun bt224=>(if bt224.2=0 then(if t217.length+bt224.1.length<140737488355328 then(some ((t217++bt224.1),0))else(none))else(some (([]:List Int),bt224.2))))=some (r1,r2):=by first|(rw [hy220];with_reducible exact H)|(have H2_:=(Option.bind_some _ _).symm.trans H;rw [hy220];with_reducible exact H2_)|(have H2_:=(Option.bind_some _ _).symm.trans H;with_reducible exact H2_)|with_reducible exact H|(rw [hy220];exact H)|exact H
              have Ny220:=Qz.k hy220
              clear hy220
              replace H:=Option.bind_eq_some_iff.mp H
              obtain⟨⟨t224,t225⟩,A380,H⟩:=H
              replace H:(if t225=0 then(if t217.length+t224.length<140737488355328 then(some ((t217++t224),0))else(none))else(some (([]:List Int),t225)))=some (r1,r2):=H
              have A38:=Qz.k A380
              clear A380
              by_cases c39:t225=0
              ·rw [if_pos c39]at H
               have c39b0:(t225 == 0)=true:=beq_iff_eq.mpr c39
               have c39b1:(t225 != 0)=false:=bne_eq_false_iff_eq.mpr c39
               clear c39
               by_cases c40:t217.length+t224.length<140737488355328
               ·rw [if_pos c40]at H
                have LMc40:=Qz.k c40
                clear c40
                obtain⟨y228,hy228⟩:∃ y_:List Int,y_=(t217++t224):=⟨_,rfl⟩
                replace H:(some (y228,0))=some (r1,r2):=by first|(rw [hy228];with_reducible exact H)|(have H2_:=(Option.bind_some _ _).symm.trans H;rw [hy228];with_reducible exact H2_)|(have H2_:=(Option.bind_some _ _).symm.trans H;with_reducible exact H2_)|with_reducible exact H|(rw [hy228];exact H)|exact H
                have Ny228:=Qz.k hy228
                clear hy228
                simp only [Option.some.injEq,Prod.mk.injEq]at H
                obtain⟨rfl,rfl⟩:=H
                obtain⟨Ao41,co41,eo41⟩:=Kd.afz HO_11.out
                subst eo41
                have p216:0≤(0:Int):=(by omega)
                have q216:0<(x11_2.length:Int):=of_decide_eq_true (by first|(with_reducible assumption)|assumption)
                obtain⟨ad216,e216,hx216_0⟩:=Kd.asz (Kd.ack HO_11.out).2.2 0 p216 q216
                cases e216
                have qi216:(0<x11_2.length)=True:=eq_true (by omega)
                (try rw [show((0:Int)).toNat=0 from rfl]at hx216_0)
                (try rw [Addr.add_zero']at hx216_0)
                replace p216:=eq_true p216
                replace q216:=eq_true q216
                go_wp2_with (first|((with_reducible refine aiz (f:=43) rfl ?_);refine asq (some 73) rfl rfl Tryz.func43 (by kernel_rfl) rfl #[.slice none 0 0,.int .u64 (rd x11_2 0)] rfl (by(try simp only [List.map_toArray,List.map_cons,List.map_nil]);first|done|rfl|(simp only [List.length_drop,List.length_take];rfl)) ?_;(refine(varint_Append.calls k2 _ _ ([]:List Int) (rd x11_2 0) t217 _ ?side1 ?side2 A36.out).mono ?_);(case side1=>exact Kd.a7q _ _);(case side2=>exact Nat.le_refl _);rintro e w42 ⟨v218,rfl,ho0,hb⟩;refine⟨_,rfl,?_⟩;have n0_:=Qz.k (Kd.ahz (al_ HO_11.out) hb);have n1_:=Qz.k (Kd.ahz (al_ HO_57.out) hb);have n2_:=Qz.k (Kd.aiq ho0 (afq au_));have n3_:=Qz.k (aaz au_ hb);clear HO_11;clear HO_57;clear HB;have HO_11:=n0_;have HO_57:=n1_;have HO219:=n2_;have HB:=n3_;clear n0_ n1_ n2_ n3_;(try clear hb);(try clear hb2);(try clear hk);(try clear hi);(try clear ho0);have q43:(1:Int)≤((x11_2.length:Int):Int):=of_decide_eq_true (by first|(with_reducible assumption)|assumption);obtain⟨i043,hi043,_,hsz43,_⟩:=info_parts bNq;have hroom43:x11_2.length≤co41:=(Kd.ack HO_11.out).2.1;have hC43:Kd.C (Kd.int .u64) _ (some ad216) x11_2.length x11_2:=(Kd.ack HO_11.out).2.2;have hcut43:=bEq (P:=Tryz.prog) 81 22 .i64 Tryz.underlying81 hi043 1 hsz43 (some ad216) x11_2.length co41 1 (by omega) q43;have hr43:=Kd.bTz (m:=(1:Int).toNat) (c:=co41) hC43 (by omega) hroom43;obtain⟨A43,hA43⟩:∃ A1,A1=(if co41=(1:Int).toNat then(some ad216)else((some ad216):Option Addr).map (·.add ((1:Int).toNat*1))):=⟨_,rfl⟩;obtain⟨c43,hc43⟩:∃ c1,c1=co41-(1:Int).toNat:=⟨_,rfl⟩;have hy43:y220.length=x11_2.length-(1:Int).toNat:=(by rw [Ny220.out,List.length_drop] <;> omega);rw [show(x11_2).drop (1:Int).toNat=y220 from Ny220.out.symm]at hr43;replace hr43:Kd.C (Kd.int .u64) _ A43 y220.length y220:=(by rw [hA43];exact hr43);rw [←hy43,←hA43,←hc43]at hcut43;have HR223:=Qz.k hr43;have HC223:=Qz.k (show y220.length≤c43 from by rw [hy43,hc43];exact Nat.sub_le_sub_right hroom43 _);clear hr43 hC43 hroom43 hi043 hsz43 hc43;have KY43:=Qz.k hy43;have KA43:=Qz.k hA43;clear hy43 hA43;have KL43:=Qz.k (show 1≤x11_2.length from by omega);replace q43:=eq_true q43)|((with_reducible refine aiz (f:=149) rfl ?_);refine asq (some 78) rfl rfl Tryz.func149 (by kernel_rfl) rfl #[.slice A43 y220.length c43,.int .i64 a1] rfl (by(try simp only [List.map_toArray,List.map_cons,List.map_nil]);first|done|rfl|(simp only [List.length_drop,List.length_take];rfl)) ?_;(with_reducible refine(intcodec_tail.calls k2 _ _ y220 a1 t224 t225 _ ?side1 ?side2 A38.out).mono ?_);(case side1=>repeat(first|exact(by repeat(first|(with_reducible exact HR223.out)|(with_reducible refine Kd.aqk ?_ _)|(with_reducible refine Kd.aqz ?_ _)|(with_reducible refine Kd.atq ?_)|exact HR223.out))|(with_reducible refine Kd.aqk ?_ _)|(with_reducible refine Kd.aqz ?_ _)|(with_reducible refine Kd.atq ?_)));(case side2=>exact HC223.out);rintro e w44 ⟨v226,rfl,ho0,hb⟩;refine⟨_,rfl,?_⟩;have n0_:=Qz.k (Kd.ahz (al_ HO_11.out) hb);have n1_:=Qz.k (Kd.ahz (al_ HO_57.out) hb);have n2_:=Qz.k (Kd.aHk (al_ HO219.out) (Kd.aRz ho0) hb);have n3_:=Qz.k (Kd.aiq (Kd.aYq ho0 (Kd.R_lt (al_ HO219.out))) (afq au_));have n4_:=Qz.k (Kd.acz (by repeat(first|(with_reducible exact HR223.out)|(with_reducible refine Kd.aqk ?_ _)|(with_reducible refine Kd.aqz ?_ _)|(with_reducible refine Kd.atq ?_)|exact HR223.out)) hb);have n5_:=Qz.k (aaz au_ hb);clear HO_11;clear HO_57;clear HO219;clear HR223;clear HB;have HO_11:=n0_;have HO_57:=n1_;have HO219:=n2_;have HO227:=n3_;have HR223:=n4_;have HB:=n5_;clear n0_ n1_ n2_ n3_ n4_ n5_;(try clear hb);(try clear hb2);(try clear hk);(try clear hi);(try clear ho0);obtain⟨Ao46,co46,eo46⟩:=Kd.afz HO227.out;subst eo46)|((with_reducible refine agk (b := .append) (xs:=#[.tmp 84,.tmp 85]) rfl ?_);at_builtin;refine Kd.ahq (Kd.int .u8) (w0:=w) w.heap.size rfl (.tmp 84) (.tmp 85) 27 5 (.int .u8 0) 1 rfl Tryz.underlying27 info5 rfl (by decide) (by omega) v218 t217 t224 _ _ _ (fun k_=>some k_≠(.slice Ao46 t224.length co46:Value).ownBlock) (fun _=>False) rfl rfl ?aO ?aR (fun _ _ h=>h) (fun _ h=>h.elim) ?aF ?aB ?aS ?aL ?_;(case aR=>repeat(first|exact(Kd.ack HO227.out).2.2|(with_reducible refine Kd.aqk ?_ _)|(with_reducible refine Kd.aqz ?_ _)|(with_reducible refine Kd.atq ?_)));(case aB=>exact au_);(case aF=>exact(fun k_ hk=>Kd.fresh' (Kd.R_lt (al_ HO227.out)) k_ hk));(case aO=>exact(by(with_reducible repeat(first|apply Kd.akq|apply Kd.akk|apply Kd.amz));exact Kd.R_mono HO219.out (fun _ hk=>hk.2)));(case aS=>exact(afq au_));(case aL=>have:=LMc40.out;omega);intro v229 w45 ho hb hg hat;rw [←Ny228.out]at ho;have n0_:=Qz.k (Kd.bfq (al_ HO_11.out) (Kd.aJz (al_ HO219.out)) (by decide) hg);have n1_:=Qz.k (Kd.bfq (al_ HO_57.out) (Kd.aJz (al_ HO219.out)) (by decide) hg);have n2_:=Qz.k (Kd.boz (ok:=(fun _=>True)) (al_ HO227.out) hg hat);have n3_:=Qz.k (hb);have n4_:=Qz.k ((show Kd.C (Kd.int .u64) w45 A43 y220.length y220 from by rw [Ny220.out,KA43.out];exact Kd.bTz (m:=1) (c:=co41) ((Kd.ack (Kd.bfq (al_ HO_11.out) (Kd.aJz (al_ HO219.out)) (by decide) hg)).2.2) KL43.out ((Kd.ack (Kd.bfq (al_ HO_11.out) (Kd.aJz (al_ HO219.out)) (by decide) hg)).2.1)));have n5_:=Qz.k (ho);clear HO_11;clear HO_57;clear HO227;clear HB;clear HR223;clear HO219;have HO_11:=n0_;have HO_57:=n1_;have HO227:=n2_;have HB:=n3_;have HR223:=n4_;have HO230:=n5_;clear n0_ n1_ n2_ n3_ n4_ n5_;clear ho hb hg hat))
                go_ret2
                exact⟨_,by first|rfl|(simp [aek,aeq] <;> rfl)|(simp [*,aek,aeq] <;> rfl),by(with_reducible repeat(first|apply Kd.akq|apply Kd.akk|apply Kd.amz));exact Kd.R_mono HO230.out (fun _ hk=>trivial),au_⟩
               ·rw [if_neg c40]at H
                exact absurd H (by simp)
              ·rw [if_neg c39]at H
               have c39b0:(t225 == 0)=false:=beq_eq_false_iff_ne.mpr c39
               have c39b1:(t225 != 0)=true:=bne_iff_ne.mpr c39
               simp only [Option.some.injEq,Prod.mk.injEq]at H
               obtain⟨rfl,rfl⟩:=H
               obtain⟨Ao47,co47,eo47⟩:=Kd.afz HO_11.out
               subst eo47
               have p216:0≤(0:Int):=(by omega)
               have q216:0<(x11_2.length:Int):=of_decide_eq_true (by first|(with_reducible assumption)|assumption)
               obtain⟨ad216,e216,hx216_0⟩:=Kd.asz (Kd.ack HO_11.out).2.2 0 p216 q216
               cases e216
               have qi216:(0<x11_2.length)=True:=eq_true (by omega)
               (try rw [show((0:Int)).toNat=0 from rfl]at hx216_0)
               (try rw [Addr.add_zero']at hx216_0)
               replace p216:=eq_true p216
               replace q216:=eq_true q216
               go_wp2_with (first|((with_reducible refine aiz (f:=43) rfl ?_);refine asq (some 73) rfl rfl Tryz.func43 (by kernel_rfl) rfl #[.slice none 0 0,.int .u64 (rd x11_2 0)] rfl (by(try simp only [List.map_toArray,List.map_cons,List.map_nil]);first|done|rfl|(simp only [List.length_drop,List.length_take];rfl)) ?_;(refine(varint_Append.calls k2 _ _ ([]:List Int) (rd x11_2 0) t217 _ ?side1 ?side2 A36.out).mono ?_);(case side1=>exact Kd.a7q _ _);(case side2=>exact Nat.le_refl _);rintro e w48 ⟨v218,rfl,ho0,hb⟩;refine⟨_,rfl,?_⟩;have n0_:=Qz.k (Kd.ahz (al_ HO_11.out) hb);have n1_:=Qz.k (Kd.ahz (al_ HO_57.out) hb);have n2_:=Qz.k (Kd.aiq ho0 (afq au_));have n3_:=Qz.k (aaz au_ hb);clear HO_11;clear HO_57;clear HB;have HO_11:=n0_;have HO_57:=n1_;have HO219:=n2_;have HB:=n3_;clear n0_ n1_ n2_ n3_;(try clear hb);(try clear hb2);(try clear hk);(try clear hi);(try clear ho0);have q49:(1:Int)≤((x11_2.length:Int):Int):=of_decide_eq_true (by first|(with_reducible assumption)|assumption);obtain⟨i049,hi049,_,hsz49,_⟩:=info_parts bNq;have hroom49:x11_2.length≤co47:=(Kd.ack HO_11.out).2.1;have hC49:Kd.C (Kd.int .u64) _ (some ad216) x11_2.length x11_2:=(Kd.ack HO_11.out).2.2;have hcut49:=bEq (P:=Tryz.prog) 81 22 .i64 Tryz.underlying81 hi049 1 hsz49 (some ad216) x11_2.length co47 1 (by omega) q49;have hr49:=Kd.bTz (m:=(1:Int).toNat) (c:=co47) hC49 (by omega) hroom49;obtain⟨A49,hA49⟩:∃ A1,A1=(if co47=(1:Int).toNat then(some ad216)else((some ad216):Option Addr).map (·.add ((1:Int).toNat*1))):=⟨_,rfl⟩;obtain⟨c49,hc49⟩:∃ c1,c1=co47-(1:Int).toNat:=⟨_,rfl⟩;have hy49:y220.length=x11_2.length-(1:Int).toNat:=(by rw [Ny220.out,List.length_drop] <;> omega);rw [show(x11_2).drop (1:Int).toNat=y220 from Ny220.out.symm]at hr49;replace hr49:Kd.C (Kd.int .u64) _ A49 y220.length y220:=(by rw [hA49];exact hr49);rw [←hy49,←hA49,←hc49]at hcut49;have HR223:=Qz.k hr49;have HC223:=Qz.k (show y220.length≤c49 from by rw [hy49,hc49];exact Nat.sub_le_sub_right hroom49 _);clear hr49 hC49 hroom49 hi049 hsz49 hc49;have KY49:=Qz.k hy49;have KA49:=Qz.k hA49;clear hy49 hA49;have KL49:=Qz.k (show 1≤x11_2.length from by omega);replace q49:=eq_true q49)|((with_reducible refine aiz (f:=149) rfl ?_);refine asq (some 78) rfl rfl Tryz.func149 (by kernel_rfl) rfl #[.slice A49 y220.length c49,.int .i64 a1] rfl (by(try simp only [List.map_toArray,List.map_cons,List.map_nil]);first|done|rfl|(simp only [List.length_drop,List.length_take];rfl)) ?_;(with_reducible refine(intcodec_tail.calls k2 _ _ y220 a1 t224 t225 _ ?side1 ?side2 A38.out).mono ?_);(case side1=>repeat(first|exact(by repeat(first|(with_reducible exact HR223.out)|(with_reducible refine Kd.aqk ?_ _)|(with_reducible refine Kd.aqz ?_ _)|(with_reducible refine Kd.atq ?_)|exact HR223.out))|(with_reducible refine Kd.aqk ?_ _)|(with_reducible refine Kd.aqz ?_ _)|(with_reducible refine Kd.atq ?_)));(case side2=>exact HC223.out);rintro e w50 ⟨v226,rfl,ho0,hb⟩;refine⟨_,rfl,?_⟩;have n0_:=Qz.k (Kd.ahz (al_ HO_11.out) hb);have n1_:=Qz.k (Kd.ahz (al_ HO_57.out) hb);have n2_:=Qz.k (Kd.aHk (al_ HO219.out) (Kd.aRz ho0) hb);have n3_:=Qz.k (Kd.aiq (Kd.aYq ho0 (Kd.R_lt (al_ HO219.out))) (afq au_));have n4_:=Qz.k (Kd.acz (by repeat(first|(with_reducible exact HR223.out)|(with_reducible refine Kd.aqk ?_ _)|(with_reducible refine Kd.aqz ?_ _)|(with_reducible refine Kd.atq ?_)|exact HR223.out)) hb);have n5_:=Qz.k (aaz au_ hb);clear HO_11;clear HO_57;clear HO219;clear HR223;clear HB;have HO_11:=n0_;have HO_57:=n1_;have HO219:=n2_;have HO227:=n3_;have HR223:=n4_;have HB:=n5_;clear n0_ n1_ n2_ n3_ n4_ n5_;(try clear hb);(try clear hb2);(try clear hk);(try clear hi);(try clear ho0)))
               go_ret2
               exact⟨_,by first|rfl|(simp [aek,aeq] <;> rfl)|(simp [*,aek,aeq] <;> rfl),by first|exact Kd.ayz _ _ _ _ _|exact Kd.baz _ _ _ _ _|exact Kd.a9z _ _ _ _ _|exact Kd.a9k _ _ _ _ _|exact Kd.a9q _ _ _ _ _,au_⟩
             ·rw [if_neg c37]at H
              exact absurd H (by simp)
            ·rw [if_neg c35]at H
             exact absurd H (by simp)
        ·rw [if_neg c22]at H
         exact absurd H (by simp)
       ·rw [if_neg c21]at H
        exact absurd H (by simp)
def intcodec_Encode.l0 : Nat→List Int→List Int→Int→Int→Option (List Int×Int)
 | 0,_,_,_,_=>none
 |k+1,x0,x4,x6,x18=>if x18<5 then((intcodec_Way.f k x0 x18).bind fun bt235=>(if bt235.2=0 then(if(bt235.1.length:Int)<(x4.length:Int)then(intcodec_Encode.l0 k x0 bt235.1 x18 (wrap64 (x18+1)))else(intcodec_Encode.l0 k x0 x4 x6 (wrap64 (x18+1))))else(intcodec_Encode.l0 k x0 x4 x6 (wrap64 (x18+1)))))else((some (([(x6)%256]:List Int):List Int)).bind fun y239=>(if y239.length+x4.length<140737488355328 then(some ((y239++x4),0))else(none)))
def intcodec_Encode.f (k:Nat)(l0:List Int):Option (List Int×Int):=if(l0.length:Int) > 65536 then(some (([]:List Int),4))else((intcodec_Way.f k l0 0).bind fun bt231=>(intcodec_Encode.l0 k l0 bt231.1 0 0))
theorem intcodec_Encode.atz : ∀ k,(∀ y0 y1 y2 y3,LeO (intcodec_Encode.l0 k y0 y1 y2 y3) (intcodec_Encode.l0 (k+1) y0 y1 y2 y3))
 | 0=>fun _ _ _ _ r h=>by simp [intcodec_Encode.l0]at h
 |k+1=>by
  have ih0:=intcodec_Encode.atz k
  ·intro y0 y1 y2 y3
   unfold intcodec_Encode.l0
   repeat' first
   |(with_reducible exact ih0 _ _ _ _)
   |(with_reducible exact intcodec_Way.mono _ _ _)
   |(with_reducible exact LeO.refl _)
   |(with_reducible exact LeO.none _)
   |(with_reducible refine LeO.ite ?_ ?_)
   |(with_reducible refine LeO.bind ?_ (fun _=>?_))
   |exact ih0 _ _ _ _
   |exact intcodec_Way.mono _ _ _
   |exact LeO.none _
   |refine LeO.ite ?_ ?_
   |refine LeO.bind ?_ (fun _=>?_)
theorem intcodec_Encode.mono : ∀ a0 k,LeO (intcodec_Encode.f k a0) (intcodec_Encode.f (k+1) a0):=by
 intro a0 k
 have ih0:=intcodec_Encode.atz k
 unfold intcodec_Encode.f
 repeat' first
   |(with_reducible exact ih0 _ _ _ _)
   |(with_reducible exact intcodec_Way.mono _ _ _)
   |(with_reducible exact LeO.refl _)
   |(with_reducible exact LeO.none _)
   |(with_reducible refine LeO.ite ?_ ?_)
   |(with_reducible refine LeO.bind ?_ (fun _=>?_))
   |exact ih0 _ _ _ _
   |exact intcodec_Way.mono _ _ _
   |exact LeO.none _
   |refine LeO.ite ?_ ?_
   |refine LeO.bind ?_ (fun _=>?_)
set_option maxHeartbeats 8000000 in
theorem intcodec_Encode.calls (k:Nat)(A0:Option Addr)(c0:Nat)(l0:List Int)(r1:List Int)(r2:Int)(w:World)(hr0:Kd.C (Kd.int .i64) w A0 l0.length l0)(hc0:l0.length≤c0)(h:intcodec_Encode.f k l0=some (r1,r2)) :
  Calls Tryz.prog 41 #[.slice A0 l0.length c0] w fun e w'=>∃ v0_:Value,e=.returned (.tuple #[v0_,.int .i64 r2])∧Kd.R (Kd.int .u8) 5 w' w.heap.size (fun _=>True) v0_ r1∧Below w.heap.size w w':=by
 have HR0:=Qz.k hr0
 have HC0:=Qz.k hc0
 clear hr0 hc0
 have HB:=Qz.k (Below.refl w.heap.size w)
 have H:(if(l0.length:Int) > 65536 then(some (([]:List Int),4))else((intcodec_Way.f k l0 0).bind fun bt231=>(intcodec_Encode.l0 k l0 bt231.1 0 0)))=some (r1,r2):=h
 clear h
 by_cases c2:(l0.length:Int) > 65536
 ·rw [if_pos c2]at H
  have c2b0:decide (65536<(l0.length:Int))=true:=decide_eq_true c2
  have c2b1:decide (65536<l0.length)=true:=decide_eq_true (by omega)
  clear c2
  simp only [Option.some.injEq,Prod.mk.injEq]at H
  obtain⟨rfl,rfl⟩:=H
  go_enter Tryz.func41,Tryz.ntmps41
  go_wp2
  go_ret2
  exact⟨_,by first|rfl|(simp [aek,aeq] <;> rfl)|(simp [*,aek,aeq] <;> rfl),by first|exact Kd.ayz _ _ _ _ _|exact Kd.baz _ _ _ _ _|exact Kd.a9z _ _ _ _ _|exact Kd.a9k _ _ _ _ _|exact Kd.a9q _ _ _ _ _,au_⟩
 ·rw [if_neg c2]at H
  have c2b0:decide (65536<(l0.length:Int))=false:=decide_eq_false c2
  have c2b1:decide (65536<l0.length)=false:=decide_eq_false (by omega)
  clear c2
  replace H:=Option.bind_eq_some_iff.mp H
  obtain⟨⟨t231,t232⟩,A30,H⟩:=H
  replace H:(intcodec_Encode.l0 k l0 t231 0 0)=some (r1,r2):=H
  have A3:=Qz.k A30
  clear A30
  have H':=Qz.k H
  clear H
  go_enter Tryz.func41,Tryz.ntmps41
  go_wp2_with (first|((with_reducible refine aiz (f:=83) rfl ?_);refine asq (some 15) rfl rfl Tryz.func83 (by kernel_rfl) rfl #[.slice A0 l0.length c0,.int .i64 0] rfl (by(try simp only [List.map_toArray,List.map_cons,List.map_nil]);first|done|rfl|(simp only [List.length_drop,List.length_take];rfl)) ?_;(with_reducible refine(intcodec_Way.calls k _ _ l0 0 t231 t232 _ ?side1 ?side2 A3.out).mono ?_);(case side1=>repeat(first|exact HR0.out|(with_reducible refine Kd.aqk ?_ _)|(with_reducible refine Kd.aqz ?_ _)|(with_reducible refine Kd.atq ?_)));(case side2=>exact HC0.out);rintro e w4 ⟨v233,rfl,ho0,hb⟩;refine⟨_,rfl,?_⟩;have n0_:=Qz.k (Kd.aiq ho0 (afq au_));have n1_:=Qz.k (aaz au_ hb);clear HB;have HO234:=n0_;have HB:=n1_;clear n0_ n1_;(try clear hb);(try clear hb2);(try clear hk);(try clear hi);(try clear ho0)))
  go_loopg [4,6,18] k (fun kq v4 v6 v18 w'=>∃ (x4_1:List Int) (x6_1:Int) (x18_1:Int),v6=.int .i64 x6_1∧v18=.int .i64 x18_1∧Qz (intcodec_Encode.l0 kq l0 x4_1 x6_1 x18_1=some (r1,r2))∧Qz (kq≤k)∧Qz (Kd.R (Kd.int .u8) 5 w' w.heap.size (fun _=>True) v4 x4_1)∧Qz (Below w.heap.size w w'))
  case atStart=>exact⟨(t231),(0),(0),(by first|rfl|(simp;done)|(simp [*];done)),(by first|rfl|(simp;done)|(simp [*];done)),H',⟨Nat.le_refl _⟩,⟨by(with_reducible repeat(first|apply Kd.akq|apply Kd.akk|apply Kd.amz));exact HO234.out⟩,⟨au_⟩⟩
  case round=>
   clear H'
   try clear c2
   try clear c2b0
   try clear c2b1
   try clear p2
   try clear c4
   obtain⟨x4_1,x6_1,x18_1,rfl,rfl,HA,HK1,HO_4,HB⟩:=hrel
   cases gk with
   |zero=>exact absurd HA.out (by simp [intcodec_Encode.l0])
   |succ k1=>
    have H:=HA.out
    clear HA
    simp only [intcodec_Encode.l0]at H
    by_cases c5:x18_1<5
    ·rw [if_pos c5]at H
     have c5b0:decide (x18_1<5)=true:=decide_eq_true c5
     clear c5
     replace H:=Option.bind_eq_some_iff.mp H
     obtain⟨⟨t235,t236⟩,A60,H⟩:=H
     replace H:(if t236=0 then(if(t235.length:Int)<(x4_1.length:Int)then(intcodec_Encode.l0 k1 l0 t235 x18_1 (wrap64 (x18_1+1)))else(intcodec_Encode.l0 k1 l0 x4_1 x6_1 (wrap64 (x18_1+1))))else(intcodec_Encode.l0 k1 l0 x4_1 x6_1 (wrap64 (x18_1+1))))=some (r1,r2):=H
     have A6:=Qz.k A60
     clear A60
     by_cases c7:t236=0
     ·rw [if_pos c7]at H
      have c7b0:(t236 == 0)=true:=beq_iff_eq.mpr c7
      have c7b1:(t236 != 0)=false:=bne_eq_false_iff_eq.mpr c7
      clear c7
      by_cases c8:(t235.length:Int)<(x4_1.length:Int)
      ·rw [if_pos c8]at H
       have c8b0:decide ((t235.length:Int)<(x4_1.length:Int))=true:=decide_eq_true c8
       have c8b1:decide (t235.length<x4_1.length)=true:=decide_eq_true (Int.ofNat_lt.mp c8)
       clear c8
       have H':=Qz.k H
       clear H
       go_wp2_with (first|((with_reducible refine aiz (f:=83) rfl ?_);refine asq (some 24) rfl rfl Tryz.func83 (by kernel_rfl) rfl #[.slice A0 l0.length c0,.int .i64 x18_1] rfl (by(try simp only [List.map_toArray,List.map_cons,List.map_nil]);first|done|rfl|(simp only [List.length_drop,List.length_take];rfl)) ?_;(with_reducible refine(intcodec_Way.calls k1 _ _ l0 x18_1 t235 t236 _ ?side1 ?side2 A6.out).mono ?_);(case side1=>repeat(first|exact(Kd.acz HR0.out HB.out)|(with_reducible refine Kd.aqk ?_ _)|(with_reducible refine Kd.aqz ?_ _)|(with_reducible refine Kd.atq ?_)));(case side2=>exact HC0.out);rintro e w9 ⟨v237,rfl,ho0,hb⟩;refine⟨_,rfl,?_⟩;have n0_:=Qz.k (Kd.aHk (al_ HO_4.out) (Kd.aRz ho0) hb);have n1_:=Qz.k (Kd.aiq (Kd.aYq ho0 (Kd.R_lt (al_ HO_4.out))) (afq au_));have n2_:=Qz.k (aaz au_ hb);clear HO_4;clear HB;have HO_4:=n0_;have HO238:=n1_;have HB:=n2_;clear n0_ n1_ n2_;(try clear hb);(try clear hb2);(try clear hk);(try clear hi);(try clear ho0);obtain⟨Ao10,co10,eo10⟩:=Kd.afz HO238.out;subst eo10;obtain⟨Ao11,co11,eo11⟩:=Kd.afz HO_4.out;subst eo11))
       go_roundg k1
       case measure=>have:=HK1.out;omega
       case rel=>exact⟨(t235),(x18_1),(wrap64 (x18_1+1)),(by first|rfl|(simp;done)|(simp [*];done)),(by first|rfl|(simp;done)|(simp [*];done)),H',⟨by have:=HK1.out;omega⟩,⟨by(with_reducible repeat(first|apply Kd.akq|apply Kd.akk|apply Kd.amz));exact Kd.R_mono HO238.out (fun _ hk=>trivial)⟩,⟨au_⟩⟩
      ·rw [if_neg c8]at H
       have c8b0:decide ((t235.length:Int)<(x4_1.length:Int))=false:=decide_eq_false c8
       have c8b1:decide (t235.length<x4_1.length)=false:=decide_eq_false (fun h=>c8 (Int.ofNat_lt.mpr h))
       clear c8
       have H':=Qz.k H
       clear H
       go_wp2_with (first|((with_reducible refine aiz (f:=83) rfl ?_);refine asq (some 24) rfl rfl Tryz.func83 (by kernel_rfl) rfl #[.slice A0 l0.length c0,.int .i64 x18_1] rfl (by(try simp only [List.map_toArray,List.map_cons,List.map_nil]);first|done|rfl|(simp only [List.length_drop,List.length_take];rfl)) ?_;(with_reducible refine(intcodec_Way.calls k1 _ _ l0 x18_1 t235 t236 _ ?side1 ?side2 A6.out).mono ?_);(case side1=>repeat(first|exact(Kd.acz HR0.out HB.out)|(with_reducible refine Kd.aqk ?_ _)|(with_reducible refine Kd.aqz ?_ _)|(with_reducible refine Kd.atq ?_)));(case side2=>exact HC0.out);rintro e w12 ⟨v237,rfl,ho0,hb⟩;refine⟨_,rfl,?_⟩;have n0_:=Qz.k (Kd.aHk (al_ HO_4.out) (Kd.aRz ho0) hb);have n1_:=Qz.k (Kd.aiq (Kd.aYq ho0 (Kd.R_lt (al_ HO_4.out))) (afq au_));have n2_:=Qz.k (aaz au_ hb);clear HO_4;clear HB;have HO_4:=n0_;have HO238:=n1_;have HB:=n2_;clear n0_ n1_ n2_;(try clear hb);(try clear hb2);(try clear hk);(try clear hi);(try clear ho0);obtain⟨Ao13,co13,eo13⟩:=Kd.afz HO238.out;subst eo13;obtain⟨Ao14,co14,eo14⟩:=Kd.afz HO_4.out;subst eo14))
       go_roundg k1
       case measure=>have:=HK1.out;omega
       case rel=>exact⟨(x4_1),(x6_1),(wrap64 (x18_1+1)),(by first|rfl|(simp;done)|(simp [*];done)),(by first|rfl|(simp;done)|(simp [*];done)),H',⟨by have:=HK1.out;omega⟩,⟨by(with_reducible repeat(first|apply Kd.akq|apply Kd.akk|apply Kd.amz));exact Kd.R_mono HO_4.out (fun _ hk=>trivial)⟩,⟨au_⟩⟩
     ·rw [if_neg c7]at H
      have c7b0:(t236 == 0)=false:=beq_eq_false_iff_ne.mpr c7
      have c7b1:(t236 != 0)=true:=bne_iff_ne.mpr c7
      have H':=Qz.k H
      clear H
      go_wp2_with (first|((with_reducible refine aiz (f:=83) rfl ?_);refine asq (some 24) rfl rfl Tryz.func83 (by kernel_rfl) rfl #[.slice A0 l0.length c0,.int .i64 x18_1] rfl (by(try simp only [List.map_toArray,List.map_cons,List.map_nil]);first|done|rfl|(simp only [List.length_drop,List.length_take];rfl)) ?_;(with_reducible refine(intcodec_Way.calls k1 _ _ l0 x18_1 t235 t236 _ ?side1 ?side2 A6.out).mono ?_);(case side1=>repeat(first|exact(Kd.acz HR0.out HB.out)|(with_reducible refine Kd.aqk ?_ _)|(with_reducible refine Kd.aqz ?_ _)|(with_reducible refine Kd.atq ?_)));(case side2=>exact HC0.out);rintro e w15 ⟨v237,rfl,ho0,hb⟩;refine⟨_,rfl,?_⟩;have n0_:=Qz.k (Kd.aHk (al_ HO_4.out) (Kd.aRz ho0) hb);have n1_:=Qz.k (Kd.aiq (Kd.aYq ho0 (Kd.R_lt (al_ HO_4.out))) (afq au_));have n2_:=Qz.k (aaz au_ hb);clear HO_4;clear HB;have HO_4:=n0_;have HO238:=n1_;have HB:=n2_;clear n0_ n1_ n2_;(try clear hb);(try clear hb2);(try clear hk);(try clear hi);(try clear ho0)))
      go_roundg k1
      case measure=>have:=HK1.out;omega
      case rel=>exact⟨(x4_1),(x6_1),(wrap64 (x18_1+1)),(by first|rfl|(simp;done)|(simp [*];done)),(by first|rfl|(simp;done)|(simp [*];done)),H',⟨by have:=HK1.out;omega⟩,⟨by(with_reducible repeat(first|apply Kd.akq|apply Kd.akk|apply Kd.amz));exact Kd.R_mono HO_4.out (fun _ hk=>trivial)⟩,⟨au_⟩⟩
    ·rw [if_neg c5]at H
     have c5b0:decide (x18_1<5)=false:=decide_eq_false c5
     clear c5
     obtain⟨y239,hy239⟩:∃ y_:List Int,y_=(([(x6_1)%256]:List Int)):=⟨_,rfl⟩
     replace H:(if y239.length+x4_1.length<140737488355328 then(some ((y239++x4_1),0))else(none))=some (r1,r2):=by first|(rw [hy239];with_reducible exact H)|(have H2_:=(Option.bind_some _ _).symm.trans H;rw [hy239];with_reducible exact H2_)|(have H2_:=(Option.bind_some _ _).symm.trans H;with_reducible exact H2_)|with_reducible exact H|(rw [hy239];exact H)|exact H
     have Ny239:=Qz.k hy239
     clear hy239
     by_cases c16:y239.length+x4_1.length<140737488355328
     ·rw [if_pos c16]at H
      have LMc16:=Qz.k c16
      clear c16
      obtain⟨y242,hy242⟩:∃ y_:List Int,y_=(y239++x4_1):=⟨_,rfl⟩
      replace H:(some (y242,0))=some (r1,r2):=by first|(rw [hy242];with_reducible exact H)|(have H2_:=(Option.bind_some _ _).symm.trans H;rw [hy242];with_reducible exact H2_)|(have H2_:=(Option.bind_some _ _).symm.trans H;with_reducible exact H2_)|with_reducible exact H|(rw [hy242];exact H)|exact H
      have Ny242:=Qz.k hy242
      clear hy242
      simp only [Option.some.injEq,Prod.mk.injEq]at H
      obtain⟨rfl,rfl⟩:=H
      go_wp2_with (first|((with_reducible refine ahk (N:=41) rfl ?_);(try(refine bhz (by rfl) ?_;dsimp only));refine Kd.bwz (Kd.int .u8) _ 5 ?hg (N:=41) ?hd (xs:=([(x6_1)%256]:List Int)) (inner:=[.int .u8 ((x6_1)%256)]) (ok:=fun _=>True) (okp:=fun _=>True) ?hr ?hp (fun _ hk=>hk) trivial (Below.refl _ _) (Nat.le_refl _) (by simp) ?_;(case hd=>rfl);(case hg=>rfl);(case hr=>first|(go_simp;done)|(go_simp;rfl));(case hp=>exact(Reps.one (show Kd.M (Kd.int .u8) _ _ _ ((x6_1)%256) [.int .u8 ((x6_1)%256)]from rfl) (Reps.none _ _)));intro v240 w17 ho18 hb hg_ hnew_;clear hg_ hnew_;(first|rw [←Ny239.out]at ho18|(simp only [Int.reduceToNat]at ho18;rw [←Ny239.out]at ho18));have n0_:=Qz.k (Kd.aHk (al_ HO_4.out) (Kd.aRz ho18) hb);have n1_:=Qz.k (Kd.aiq (Kd.aYq ho18 (Kd.R_lt (al_ HO_4.out))) (afq au_));have n2_:=Qz.k (aaz au_ hb);clear HO_4;clear HB;have HO_4:=n0_;have HO241:=n1_;have HB:=n2_;clear n0_ n1_ n2_;clear hb ho18;obtain⟨Ao20,co20,eo20⟩:=Kd.afz HO_4.out;subst eo20)|((with_reducible refine agk (b := .append) (xs:=#[.tmp 41,.tmp 42]) rfl ?_);(try(refine bhz (by rfl) ?_;dsimp only));at_builtin;refine Kd.ahq (Kd.int .u8) (w0:=w) w.heap.size rfl (.tmp 41) (.tmp 42) 27 5 (.int .u8 0) 1 rfl Tryz.underlying27 info5 rfl (by decide) (by omega) v240 y239 x4_1 _ _ _ (fun k_=>some k_≠(.slice Ao20 x4_1.length co20:Value).ownBlock) (fun _=>False) rfl rfl ?aO ?aR (fun _ _ h=>h) (fun _ h=>h.elim) ?aF ?aB ?aS ?aL ?_;(case aR=>repeat(first|exact(Kd.ack HO_4.out).2.2|(with_reducible refine Kd.aqk ?_ _)|(with_reducible refine Kd.aqz ?_ _)|(with_reducible refine Kd.atq ?_)));(case aB=>exact au_);(case aF=>exact(fun k_ hk=>Kd.fresh' (Kd.R_lt (al_ HO_4.out)) k_ hk));(case aO=>exact(by(with_reducible repeat(first|apply Kd.akq|apply Kd.akk|apply Kd.amz));exact Kd.R_mono HO241.out (fun _ hk=>hk.2)));(case aS=>exact(afq au_));(case aL=>have:=LMc16.out;omega);intro v243 w19 ho hb hg hat;rw [←Ny242.out]at ho;have n0_:=Qz.k (Kd.boz (ok:=(fun _=>True)) (al_ HO_4.out) hg hat);have n1_:=Qz.k (hb);have n2_:=Qz.k (ho);clear HO_4;clear HB;clear HO241;have HO_4:=n0_;have HB:=n1_;have HO244:=n2_;clear n0_ n1_ n2_;clear ho hb hg hat))
      go_ret2
      exact⟨_,by first|rfl|(simp [aek,aeq] <;> rfl)|(simp [*,aek,aeq] <;> rfl),by(with_reducible repeat(first|apply Kd.akq|apply Kd.akk|apply Kd.amz));exact Kd.R_mono HO244.out (fun _ hk=>trivial),au_⟩
     ·rw [if_neg c16]at H
      exact absurd H (by simp)
def dict_width.f (a0:Int):Option (Int):=(bits_Width.f (IntKind.u64.wrap (wrap64 ((mx a0 1)-1)))).bind fun t245=>(some t245)
set_option maxHeartbeats 8000000 in
theorem dict_width.calls (a0:Int)(r:Int)(w:World)(h:dict_width.f a0=some r) :
  Calls Tryz.prog 241 #[.int .i64 a0] w fun e w'=>e=.returned (.int .i64 r)∧Below w.heap.size w w':=by
 have HB:=Qz.k (Below.refl w.heap.size w)
 have H:((bits_Width.f (IntKind.u64.wrap (wrap64 ((mx a0 1)-1)))).bind fun t245=>(some t245))=some r:=h
 clear h
 obtain⟨ji2,hji2⟩:∃ j_:Int,(mx a0 1)=j_:=⟨_,rfl⟩
 replace H:((bits_Width.f (IntKind.u64.wrap (wrap64 ((ji2)-1)))).bind fun t245=>(some t245))=some r:=by first|(rw [hji2]at H;exact H)|(simp only [hji2]at H ⊢;exact H)
 (try(have hji2l:1≤ji2:=by(rw [←hji2];unfold mx;(repeat' split) <;> omega)))
 (try(have hji2m:0≤ji2:=by omega))
 have hji2_:(if a0<1 then 1 else a0)=ji2:=hji2
 replace H:=Option.bind_eq_some_iff.mp H
 obtain⟨t245,A30,H⟩:=H
 replace H:(some t245)=some r:=H
 have A3:=Qz.k A30
 clear A30
 obtain rfl:=Option.some.inj H
 go_enter Tryz.func241,Tryz.ntmps241
 go_wp2_with (first|((with_reducible refine aiz (f:=291) rfl ?_);refine asq (some 7) rfl rfl Tryz.func291 (by kernel_rfl) rfl #[.int .u64 (IntKind.u64.wrap (wrap64 ((ji2)-1)))] rfl (by(try simp only [List.map_toArray,List.map_cons,List.map_nil]);first|done|(simp only [hji2];rfl)|rfl|(simp only [List.length_drop,List.length_take];rfl)) ?_;(with_reducible refine(bits_Width.calls (IntKind.u64.wrap (wrap64 ((ji2)-1))) t245 _ A3.out).mono ?_);rintro e w' ⟨rfl,⟨nd,rfl⟩⟩;refine⟨_,rfl,?_⟩))
 go_ret
 exact⟨by first|rfl|(simp [aek,aeq] <;> rfl)|(simp only [←hji2];first|rfl|(simp [aek,aeq] <;> rfl))|(simp [*,aek,aeq] <;> rfl),au_⟩
end Go.Proofs.YthggdomocichdaaGreatDoor.P
namespace Go.Proofs.YthggdomocichdaaGreatDoor.P
open Go.RowKit Go.Maps Go.Proofs.YthggdomocichdaaGreatDoor.Kit Go.Proofs.YthggdomocichdaaGreatDoor.Var Go.Proofs.YthggdomocichdaaGreatDoorW.PrintWords Go.Proofs.YthggdomocichdaaGreatDoorW.PrintLast Go.Proofs.YthggdomocichdaaGreatDoorW.PrintMore
attribute [local go_sem] awq awz aCq aCz
def addV (d:List Int)(v:Int):List Int:=if v∈d then d else d ++ [v]
def apk (l:List Int):List Int:=l.foldl addV []
def wD (n:Nat):Nat:=Lib.bitLen (max n 1-1)
def a2q (d:List Int):List Int:=d.flatMap (fixB 8)
def aGk (d l:List Int):List Int:=l.flatMap fun v=>bitsOf (wD d.length) (d.idxOf v:Int)
def dEncB (l:List Int):List Int:=vn (apk l).length++a2q (apk l)++pack (aGk (apk l) l)
def dEnc (l:List Int):List Int×Int:=if 65536<l.length then([],4)else(dEncB l,0)
def dict_Encode.f (l:List Int):Option (List Int×Int):=if(∀ x∈l,0≤x∧x≤18446744073709551615)∧l.length<140737488355328 then some (dEnc l)else none
theorem addV_len (d:List Int)(v:Int):(addV d v).length≤d.length+1:=by
 unfold addV
 split
 ·omega
 ·simp
theorem dictOf_snoc (l:List Int)(v:Int):apk (l ++ [v])=addV (apk l) v:=by simp [apk,List.foldl_append]
theorem bOk (l:List Int)(i:Nat)(h:i<l.length):apk (l.take (i+1))=addV (apk (l.take i)) (rd l (i:Int)):=by
 rw [List.take_add_one,List.getElem?_eq_getElem h,Option.toList_some,dictOf_snoc,aUk,List.getD_eq_getElem?_getD,List.getElem?_eq_getElem h,Option.getD_some]
theorem bzq (l:List Int):∀ i,i≤l.length→(apk (l.take i)).length≤i
 | 0,_=>by simp [apk]
 |i+1,h=>by
  rw [bOk l i h]
  have:=bzq l i (by omega)
  have:=addV_len (apk (l.take i)) (rd l (i:Int))
  omega
theorem a5k (d:List Int):(a2q d).length=8*d.length:=by
 induction d with
 |nil=>rfl
 |cons x d ih=>
  rw [show a2q (x :: d)=fixB 8 x++a2q d by simp [a2q],List.length_append,ank,ih,List.length_cons]
  omega
theorem fixesB_snoc (d:List Int)(x:Int):a2q (d ++ [x])=a2q d++fixB 8 x:=by simp [a2q]
theorem wD_le (n:Nat)(h:n≤65536):wD n≤16:=Lib.bitLen_le _ _ (by omega) (by omega)
theorem bl_lt' (n:Nat):∀ w,n<18446744073709551616→Lib.bitLen n≤w→n<2 ^ w:=by
 induction n using Nat.strongRecOn with
 | _ n ih=>
  intro w hn h
  rcases Nat.eq_zero_or_pos n with rfl|h0
  ·exact Nat.two_pow_pos w
  ·rw [Lib.bitLen_half n (by omega) hn]at h
   obtain⟨m,rfl⟩:∃ m,w=m+1:=⟨w-1,by omega⟩
   have:=ih (n/2) (by omega) m (by omega) (by omega)
   rw [Nat.pow_succ]
   omega
theorem idx_wD {n i:Nat}(hn:n≤65536)(hi:i<n):Lib.bitLen i≤wD n:=by
 have h1:=bl_lt' (max n 1-1) (wD n) (by omega) (Nat.le_refl _)
 exact Lib.bitLen_le _ _ (by have:=wD_le n hn;omega) (by omega)
theorem dput_f {s:List Int}{n i:Nat}(hn:n≤65536)(hi:i<n)(hs:s.length+64<16777216):bits_Writer_Put.f s (i:Int) (wD n:Int)=some (0,s++bitsOf (wD n) (i:Int)):=by
 have h1:=idx_wD hn hi
 have h2:=wD_le n hn
 unfold bits_Writer_Put.f
 rw [if_pos ⟨hs,by omega,by omega⟩]
 unfold wPut
 rw [if_neg (by rw [Int.toNat_natCast];omega),Int.toNat_natCast]
theorem dwidth_f (n:Nat)(h:n≤65536):dict_width.f (n:Int)=some (wD n:Int):=by
 have e:IntKind.u64.wrap (wrap64 (mx (n:Int) 1-1))=((max n 1-1:Nat):Int):=by
  unfold mx
  rw [aMq]
  split
  ·rw [agq (by omega) (by omega)]
   omega
  ·rw [agq (by omega) (by omega)]
   omega
 unfold dict_width.f bits_Width.f bits_Len64.f
 rw [e,if_pos ⟨by omega,by omega⟩]
 simp [wD]
theorem bUq (d l:List Int):(aGk d l).length=l.length*wD d.length:=by
 induction l with
 |nil=>simp [aGk]
 |cons x l ih=>
  rw [show aGk d (x :: l)=bitsOf (wD d.length) (d.idxOf x:Int)++aGk d l by simp [aGk],List.length_append,auk,ih,List.length_cons,Nat.add_mul]
  omega
theorem placesB_take (d l:List Int)(i:Nat)(h:i<l.length):aGk d (l.take (i+1))=aGk d (l.take i)++bitsOf (wD d.length) (d.idxOf (rd l (i:Int)):Int):=by
 rw [List.take_add_one,List.getElem?_eq_getElem h,Option.toList_some,aUk,List.getD_eq_getElem?_getD,List.getElem?_eq_getElem h,Option.getD_some]
 unfold aGk
 rw [List.flatMap_append]
 simp only [List.flatMap_cons,List.flatMap_nil,List.append_nil]
theorem mem_dictOf (l:List Int):∀ x,x∈apk l↔x∈l:=by
 have key:∀ (l d:List Int) (x:Int),x∈l.foldl addV d↔x∈d∨x∈l:=by
  intro l
  induction l with
  |nil=>intro d x;simp
  |cons y l ih=>
   intro d x
   rw [List.foldl_cons,ih]
   unfold addV
   split
   ·next h=>
    constructor
    ·rintro(h1|h1)
     ·exact .inl h1
     ·exact .inr (List.mem_cons_of_mem _ h1)
    ·rintro(h1|h1)
     ·exact .inl h1
     ·rcases List.mem_cons.1 h1 with rfl|h2
      ·exact .inl h
      ·exact .inr h2
   ·simp [or_assoc]
 intro x
 simp [apk,key l [] x]
def DictD (d:List Int)(D:DataW Unit):Prop:=(∀ x,Maps.has D (.int .u64 x)=decide (x∈d))∧(∀ x∈d,D.atKey (.int .u64 x) (.lit (.int .i64 0))=.lit (.int .i64 (d.idxOf x:Int)))∧Maps.size D=d.length
theorem DictD.nil : DictD [] (.map []):=⟨fun x=>by simp [Maps.has],⟨fun x hx=>absurd hx (by simp),rfl⟩⟩
theorem isKey (x:Int):WideAt.IsKeyLit (.int .u64 x):=trivial
theorem DictD.snoc {d:List Int}{D:DataW Unit}(hT:Tidy D)(h:DictD d D){x:Int}(hx:x∉d):DictD (d ++ [x]) (D.put (.int .u64 x) (.lit (.int .i64 (d.length:Int)))):=by
 obtain⟨h1,h2,h3⟩:=h
 refine⟨fun y=>?_,fun y hy=>?_,?_⟩
 ·by_cases e:y=x
  ·subst e
   rw [has_put_same hT.isMap (isKey _),decide_eq_true (by simp)]
  ·rw [has_put_other (fun h=>e (by injection h)),h1 y]
   simp [e]
 ·by_cases e:y=x
  ·subst e
   rw [atKey_put_same hT.isMap (isKey _),List.idxOf_append,if_neg hx]
   simp
  ·rw [atKey_put_other (fun h=>e (by injection h))]
   have hy':y∈d:=by simpa [e]using hy
   rw [h2 y hy',List.idxOf_append,if_pos hy']
 ·rw [size_put hT,h1 x,decide_eq_false hx,h3]
  simp
section
variable {H:Type}{P:Program}{k:TypeId}{R:Value→Option (DataW H×List MemPlace)}{W W':World}{b n:Nat}{D:DataW H}
theorem owns_at (h:W.ownsMap P k R b n D)(e:W'.heap[b]? = W.heap[b]?):W'.ownsMap P k R b n D:=by
 obtain⟨es,clock,hb,r⟩:=h
 exact⟨es,clock,e.trans hb,r⟩
theorem bZk (h:W.ownsMap P k R b n D)(hb:Below W.heap.size W W'):W'.ownsMap P k R b n D:=owns_at h (hb.block b h.lt)
theorem R_offmap {α : Type}{d:Kd α}{e base:Nat}{ok:Nat→Prop}{v:Value}{xs:List α}(h:d.R e W base ok v xs)(hm:W.ownsMap P k R b n D):d.R e W base (fun k=>ok k∧k≠b) v xs:=by
 refine Kd.R_mono (Kd.axz h) (fun j hj=>⟨hj.1,?_⟩)
 rintro rfl
 obtain⟨q,hq,cells,hc⟩:=hj.2.2.2
 obtain⟨es,clock,hb,r⟩:=hm
 rw [hb]at hc
 cases hc
theorem bZq {α : Type}{d:Kd α}{e base:Nat}{ok:Nat→Prop}{v:Value}{xs:List α}(hm:W.ownsMap P k R b n D)(h:d.R e W base ok v xs)(hg:W.grownBy W' v.ownBlock):W'.ownsMap P k R b n D:=by
 refine hm.kept hg (fun e1=>?_)
 obtain⟨cells,hc⟩:=Kd.aJz h b e1.symm
 obtain⟨es,clock,hb,r⟩:=hm
 rw [hb]at hc
 cases hc
end
theorem lawK : Keyed Tryz.prog 22:=int_keyed Tryz.underlying22
theorem zeroI (w:World):(zeroValue 3).run Tryz.prog w=.ok (.int .i64 0) w:=by kernel_rfl
theorem keyU {x:Int}(h:0≤x∧x≤18446744073709551615):keyOf Tryz.prog 22 (.int .u64 x)=some (.int .u64 x):=keyOf_int_mk Tryz.underlying22 (by simpa [Lit.wf,IntKind.min,IntKind.max,IntKind.signed,IntKind.bits]using h)
theorem mapEqs {W:World}{b n:Nat}{d:List Int}{D:DataW Unit}(hm:W.ownsMap Tryz.prog 22 (plainElem Tryz.prog 3) b n D)(hD:DictD d D){x:Int}(hx:0≤x∧x≤18446744073709551615)(hxd:x∈d) :
  (Instr.lookup 240 (.map (some b)) (.int .u64 x) false).run Tryz.prog W=.ok (.int .i64 (d.idxOf x:Int)) W∧(Builtin.len_ #[240] 3 #[.map (some b)]).run Tryz.prog W=.ok (.int .i64 (d.length:Int)) W:=by
 obtain⟨c,hrun,hat,_⟩:=hm.lookup_int lawK Tryz.underlying240 Tryz.underlying3 (zeroI _) (keyU hx)
 refine⟨?_,?_⟩
 ·rw [hD.2.1 x hxd]at hat
  injection hat with hat
  injection hat with _ hat
  rw [hrun,hat]
 ·rw [hm.len Tryz.underlying240 3,hD.2.2]
set_option maxHeartbeats 1000000 in
theorem dict_Encode.calls (A0:Option Addr)(c0:Nat)(l0:List Int)(r1:List Int)(r2:Int)(w:World)(hr0:Kd.C (Kd.int .u64) w A0 l0.length l0)(hc0:l0.length≤c0)(h:dict_Encode.f l0=some (r1,r2)) :
  Calls Tryz.prog 195 #[.slice A0 l0.length c0] w fun e w'=>∃ v0_:Value,e=.returned (.tuple #[v0_,.int .i64 r2])∧Kd.R (Kd.int .u8) 5 w' w.heap.size (fun _=>True) v0_ r1∧Below w.heap.size w w':=by
 unfold dict_Encode.f at h
 split at h
 case isFalse=>cases h
 case isTrue hc=>
  injection h with h
  unfold dEnc at h
  obtain⟨hu,hl⟩:=hc
  by_cases h65:65536<l0.length
  ·rw [if_pos h65]at h
   injection h with h1 h2
   subst h1 h2
   have c1:decide (65536<(l0.length:Int))=true:=decide_eq_true (by omega)
   have c2:decide (65536<l0.length)=true:=decide_eq_true h65
   clear hr0 hc0 hu hl h65
   go_enter Tryz.func195,Tryz.ntmps195
   go_wp2
   go_ret2
   exact⟨_,rfl,Kd.ayz _ _ _ _ _,Below.refl _ _⟩
  ·rw [if_neg h65]at h
   injection h with h1 h2
   subst h2
   have c1:decide (65536<(l0.length:Int))=false:=decide_eq_false (by omega)
   have c2:decide (65536<l0.length)=false:=decide_eq_false h65
   have H:=Qz.k h1
   have HR:=Qz.k hr0
   have HU:=Qz.k hu
   have HN:=Qz.k (show l0.length≤65536∧l0.length≤c0 from⟨by omega,hc0⟩)
   have hmm:=@run_makeMap Tryz.prog
   have HM0:=Qz.k (World.ownsMap_made w Tryz.prog 22 (plainElem (H:=Unit) Tryz.prog 3))
   clear hr0 hc0 hu hl h65 h1
   go_enter Tryz.func195,Tryz.ntmps195
   go_wp2
   clear hmm c1 c2
   go_loopg [5,21] l0.length (fun kq v5 v21 W'=>∃ (i:Nat) (D:DataW Unit),v21=.int .i64 (i:Int)∧kq=l0.length-i∧i≤l0.length∧Qz (W'.ownsMap Tryz.prog 22 (plainElem Tryz.prog 3) w.heap.size i D)∧Qz (DictD (apk (l0.take i)) D)∧Qz (Below w.heap.size w W')∧Qz (Kd.R (Kd.int .u8) 5 W' w.heap.size (fun _=>True) v5 (a2q (apk (l0.take i)))))
   case atStart=>exact⟨0,_,rfl,rfl,Nat.zero_le _,HM0,⟨DictD.nil⟩,⟨aaq (Below.refl _ _) _⟩,⟨Kd.ayz _ _ _ _ _⟩⟩
   case round=>
    clear HM0
    obtain⟨i,D,rfl,rfl,hi,HM,HD,HB,HO⟩:=hrel
    by_cases hlt:i<l0.length
    ·have c3:decide ((i:Int)<(l0.length:Int))=true:=decide_eq_true (by omega)
     have c4:decide (i<l0.length)=true:=decide_eq_true hlt
     obtain⟨ad2,e2,hx⟩:=Kd.asz HR.out (i:Int) (by omega) (by omega)
     subst e2
     rw [Int.toNat_natCast]at hx
     replace hx:=(HB.out.cell (World.block_lt_of_cell? w _ hx)).trans hx
     have hx0:=HU.out _ (aZz l0 (i:Int) (by omega) (by omega))
     have HK:=Qz.k (keyU hx0)
     have HX0:=Qz.k hx0
     have HT:=Qz.k (HM.out.tidy lawK)
     have HDL:=Qz.k (bzq l0 i hi)
     have hsz:=HD.out.2.2
     have hhas:=HD.out.1 (rd l0 (i:Int))
     have HDT:=Qz.k (bOk l0 i hlt)
     have HW:=Qz.k (show wrap64 ((i:Int)+1)=((i+1:Nat):Int)from by have:=HN.out;rw [agq (by omega) (by omega)];omega)
     clear hx0
     obtain⟨A5,q5,e5⟩:=Kd.afz HO.out
     subst e5
     by_cases hin:rd l0 (i:Int)∈apk (l0.take i)
     ·rw [decide_eq_true hin]at hhas
      have HDT2:=Qz.k (HDT.out.trans (if_pos hin))
      clear hin HDT
      go_wp2_with (first
       |(at_lookup;(refine wpList_lookup_own_ok_int _ rfl _ _ 240 rfl 22 3 .i64 lawK Tryz.underlying240 Tryz.underlying3 (zeroI _) w.heap.size _ _ rfl HM.out _ _ rfl HK.out ?_;intro c hat hwc;rw [hhas];clear hat hwc)))
      go_roundg (l0.length-(i+1))
      case measure=>exact(by have:=HN.out;omega)
      case rel=>
       rw [HW.out]
       exact⟨i+1,D,rfl,rfl,hlt,⟨HM.out.mono (Nat.le_succ _)⟩,⟨by rw [HDT2.out];exact HD.out⟩,HB,⟨by rw [HDT2.out];exact HO.out⟩⟩
     ·rw [decide_eq_false hin]at hhas
      have HDT2:=Qz.k (HDT.out.trans (if_neg hin))
      have HDS:=Qz.k (DictD.snoc HT.out HD.out hin)
      have HO1:=Qz.k (R_offmap HO.out HM.out)
      obtain⟨kf,hkf⟩:=(bSk (rd l0 (i:Int)) 8 (by decide)).get
      have HFX:=Qz.k hkf
      have HFB:=Qz.k (a5k (apk (l0.take i)))
      have HFL:=Qz.k (ank (rd l0 (i:Int)) 8)
      have HFS:=Qz.k (fixesB_snoc (apk (l0.take i)) (rd l0 (i:Int)))
      have HWF:=Qz.k (show(Lit.int .i64 (((apk (l0.take i)).length:Nat):Int)).wf=true from WalkArith.wf_i64 (by have:=HDL.out;have:=HN.out;constructor <;> omega))
      clear hin HDT hkf HO HD
      go_wp2_with (first
       |(at_lookup;(refine wpList_lookup_own_ok_int _ rfl _ _ 240 rfl 22 3 .i64 lawK Tryz.underlying240 Tryz.underlying3 (zeroI _) w.heap.size _ _ rfl HM.out _ _ rfl HK.out ?_;intro c hat hwc;rw [hhas];clear hat hwc))
       |(at_len;refine wpList_len_own _ rfl _ 240 rfl 22 3 Tryz.underlying240 _ w.heap.size _ _ rfl HM.out ?_;rw [hsz])
       |(at_mapUpdate;refine wpList_mapUpdate_own _ rfl _ _ _ 240 rfl 22 3 lawK Tryz.underlying240 _ w.heap.size i _ rfl HM.out (by have:=HN.out;unfold maxLen;omega) _ _ _ rfl rfl HK.out _ [] (plainElem_int Tryz.underlying3 HWF.out) ?_;intro w1 hown1 hgrow1;have HM1:=Qz.k hown1;have HO2:=Qz.k (Kd.aUz HO1.out hgrow1 (fun k hk e=>hk.2 (by injection e)));have HB1:=Qz.k (HB.out.grown hgrow1 HB.out.size (fun j hj=>by injection hj with hj;omega));clear hown1 hgrow1)
       |(go_at_call 96;refine(cursor_Fix.calls kf _ _ _ _ HFX.out).mono ?_;rintro e w4 ⟨v4,rfl,ho4,hb⟩;have HO4:=Qz.k (Kd.ahz HO2.out hb);have HB4:=Qz.k (aaz HB1.out hb);have HM4:=Qz.k (bZk HM1.out hb);have HX4:=Qz.k ho4;clear hb ho4;obtain⟨AX,qX,eX⟩:=Kd.afz HX4.out;subst eX)
       |((with_reducible refine agk (b := .append) (xs:=#[.tmp 38,.tmp 40]) rfl ?_);at_builtin;refine Kd.ahq (Kd.int .u8) (w0:=w) w.heap.size rfl (.tmp 38) (.tmp 40) 27 5 (.int .u8 0) 1 rfl Tryz.underlying27 info5 rfl (by decide) (by omega) (.slice A5 (a2q (apk (l0.take i))).length q5) (a2q (apk (l0.take i))) (fixB 8 (rd l0 (i:Int))) AX _ qX (fun _=>True) (fun _=>False) rfl rfl (Kd.R_mono HO4.out (fun _ _=>trivial)) (Kd.ack HX4.out).2.2 (fun _ _ h=>h) (fun _ h=>h.elim) (fun _ _=>trivial) HB4.out HB4.out.size (by have:=HFL.out;have:=HFB.out;have:=HDL.out;have:=HN.out;omega) ?_;intro v5 w5 ho5 hb5 hg5 hat5;have HO5:=Qz.k ho5;have HB5:=Qz.k hb5;have HM5:=Qz.k (bZq HM4.out HO4.out hg5);clear ho5 hb5 hg5 hat5))
      go_roundg (l0.length-(i+1))
      case measure=>exact(by have:=HN.out;omega)
      case rel=>
       rw [HW.out]
       exact⟨i+1,_,rfl,rfl,hlt,HM5,⟨by rw [HDT2.out];exact HDS.out⟩,HB5,⟨by rw [HDT2.out,HFS.out];exact HO5.out⟩⟩
    ·have c3:decide ((i:Int)<(l0.length:Int))=false:=decide_eq_false (by omega)
     have c4:decide (i<l0.length)=false:=decide_eq_false hlt
     obtain rfl:i=l0.length:=by omega
     have hel:l0.take l0.length=l0:=List.take_length
     rw [hel]at HD HO
     have HDL:=Qz.k (show(apk l0).length≤65536 from by have:=bzq l0 l0.length (Nat.le_refl _);rw [hel]at this;have:=HN.out;omega)
     have hsz:=HD.out.2.2
     obtain⟨kf,hkf⟩:=(biz [] (apk l0).length (by simp) (by have:=HDL.out;omega)).get
     rw [List.nil_append]at hkf
     have HAP:=Qz.k hkf
     have hwr:IntKind.u64.wrap ((apk l0).length:Int)=((apk l0).length:Int):=by
      rw [aMq]
      have:=HDL.out
      omega
     have HVL:=Qz.k (avk (apk l0).length (by have:=HDL.out;omega))
     have HFB:=Qz.k (a5k (apk l0))
     have HOM:=Qz.k (R_offmap HO.out HM.out)
     clear hkf hel hi hlt HO
     obtain⟨A5,q5,e5⟩:=Kd.afz HOM.out
     subst e5
     go_wp2_with (first
      |(at_len;(refine wpList_len_own _ rfl _ 240 rfl 22 3 Tryz.underlying240 _ w.heap.size _ _ rfl HM.out ?_;rw [hsz]))
      |(go_at_call 43;(try rw [hwr]);refine(varint_Append.calls kf _ _ ([]:List Int) _ _ _ (Kd.a7q _ _) (Nat.le_refl _) HAP.out).mono ?_;rintro e w4 ⟨v4,rfl,ho4,hb⟩;have HX4:=Qz.k (Kd.ahz HOM.out hb);have HB4:=Qz.k (aaz HB.out hb);have HM4:=Qz.k (bZk HM.out hb);have HO4:=Qz.k ho4;clear hb ho4)
      |((with_reducible refine agk (b := .append) (xs:=#[.tmp 46,.tmp 47]) rfl ?_);at_builtin;refine Kd.ahq (Kd.int .u8) (w0:=w) w.heap.size rfl (.tmp 46) (.tmp 47) 27 5 (.int .u8 0) 1 rfl Tryz.underlying27 info5 rfl (by decide) (by omega) _ (vn (apk l0).length) (a2q (apk l0)) A5 _ q5 (fun _=>True) (fun _=>False) rfl rfl (Kd.aiq HO4.out (afq HB.out)) (Kd.ack HX4.out).2.2 (fun _ _ h=>h) (fun _ h=>h.elim) (fun _ _=>trivial) HB4.out HB4.out.size (by have:=HVL.out;have:=HFB.out;have:=HDL.out;omega) ?_;intro v5 w5 ho5 hb5 hg5 hat5;have HO5:=Qz.k ho5;have HB5:=Qz.k hb5;have HM5:=Qz.k (bZq HM4.out HO4.out hg5);clear ho5 hb5 hg5 hat5))
     have HBX:=Qz.k (ajq.box (w0:=w5) (W:=w5.alloc (.cells #[.slice none 0 0,.int .i64 0] 234)) (g:=w5.heap.size) (MapKept.heap_alloc w5 _).1 (Nat.le_refl _))
     have HDI:=Qz.k HD.out
     have HMEM:=Qz.k (show ∀ x∈l0,x∈apk l0 from fun x hx=>(mem_dictOf l0 x).2 hx)
     have HWF:=Qz.k (dwidth_f (apk l0).length HDL.out)
     have HPL:=Qz.k (show ∀ j,j≤l0.length→(aGk (apk l0) (l0.take j)).length≤65536*16 from fun j hj=>by
      rw [bUq,List.length_take]
      exact Nat.mul_le_mul (by have:=HN.out;omega) (wD_le _ HDL.out))
     clear HM HB HD HAP HVL HOM HO4 HX4 HM4 HB4 hsz hwr c3 c4
     go_loopg [53] l0.length (fun kq v53 W'=>∃ j:Nat,v53=.int .i64 (j:Int)∧kq=l0.length-j∧j≤l0.length∧Qz (ajq w5 W' w5.heap.size (aGk (apk l0) (l0.take j)))∧Qz (Below w5.heap.size w5 W'))
     case atStart=>exact⟨0,rfl,rfl,Nat.zero_le _,HBX,⟨aaq (Below.refl _ _) _⟩⟩
     case round=>
      clear HBX
      obtain⟨j,rfl,rfl,hj,HI,HB⟩:=hrel
      by_cases hlt:j<l0.length
      ·have c3:decide ((j:Int)<(l0.length:Int))=true:=decide_eq_true (by omega)
       have c4:decide (j<l0.length)=true:=decide_eq_true hlt
       obtain⟨ad2,e2,hx⟩:=Kd.asz HR.out (j:Int) (by omega) (by omega)
       subst e2
       rw [Int.toNat_natCast]at hx
       replace hx:=(HB5.out.cell (World.block_lt_of_cell? w _ hx)).trans hx
       replace hx:=(HB.out.cell (World.block_lt_of_cell? w5 _ hx)).trans hx
       have hx0:=HU.out _ (aZz l0 (j:Int) (by omega) (by omega))
       have hmem:=HMEM.out _ (aZz l0 (j:Int) (by omega) (by omega))
       have HEQ:=Qz.k (show ∀ W,Below w5.heap.size w5 W→_ from fun W hW=>mapEqs (owns_at HM5.out (hW.block _ HM5.out.lt)) HDI.out hx0 hmem)
       have HIX:=Qz.k (List.idxOf_lt_length_of_mem hmem)
       have HPF:=Qz.k (dput_f (s:=aGk (apk l0) (l0.take j)) HDL.out HIX.out (by have:=HPL.out j hj;omega))
       rw [←placesB_take (apk l0) l0 j hlt]at HPF
       have HW:=Qz.k (show wrap64 ((j:Int)+1)=((j+1:Nat):Int)from by have:=HN.out;rw [agq (by omega) (by omega)];omega)
       have hwu:IntKind.u64.wrap (((apk l0).idxOf (rd l0 (j:Int)):Nat):Int)=(((apk l0).idxOf (rd l0 (j:Int)):Nat):Int):=by
        rw [aMq]
        have:=HIX.out
        have:=HDL.out
        omega
       clear hx0 hmem
       generalize (apk l0).idxOf (rd l0 (j:Int))=p at *
       go_upto_region 19 with(fail)
       refine axq (n:=9) (S:=fun w'=>(Instr.lookup 240 (.map (some w.heap.size)) (.int .u64 (rd l0 (j:Int))) false).run Tryz.prog w'=.ok (.int .i64 (p:Int)) w'∧(Builtin.len_ #[240] 3 #[.map (some w.heap.size)]).run Tryz.prog w'=.ok (.int .i64 ((apk l0).length:Int)) w') (ds:=[8]) (bl 9 0) (by kernel_rfl) rfl rfl ⟨(HEQ.out _ (aez HB.out)).1,(HEQ.out _ (aez HB.out)).2⟩ (fun hHeld=>?_)
       refine pu_ 0 57 ?_ ?_ (bl 9 1) rfl rfl (by kernel_rfl) ?_ ?_ ?_
       rotate_left 2
       ·intro w';go_simp;with_reducible rfl
       ·simp only [Act.put,putA,putZ,putS,abq,abk];rfl
       refine pu_ 1 58 ?_ ?_ (bl 9 3) rfl rfl (by kernel_rfl) ?_ ?_ ?_
       rotate_left 2
       ·intro w';go_simp;with_reducible rfl
       ·simp only [Act.put,putA,putZ,putS,abq,abk];rfl
       refine pu_ 2 59 ?_ ?_ (bl 9 7) rfl rfl (by kernel_rfl) ?_ ?_ ?_
       rotate_left 2
       ·intro w';go_simp;with_reducible rfl
       ·simp only [Act.put,putA,putZ,putS,abq,abk];rfl
       refine pu_ 5 62 ?_ ?_ (bl 9 39) rfl rfl (by kernel_rfl) ?_ ?_ ?_
       rotate_left 2
       ·intro w';go_simp;with_reducible rfl
       ·simp only [Act.put,putA,putZ,putS,abq,abk];rfl
       refine tk_ 3 60 ?_ ?_ (bl 9 47) rfl rfl (by kernel_rfl) hHeld ?_ ?_ ?_
       rotate_left 2
       ·rintro w' ⟨s0,s1⟩;go_simp;with_reducible rfl
       ·simp only [Act.put,putA,putZ,putS,abq,abk];rfl
       refine pu_ 4 61 ?_ ?_ (bl 9 63) rfl rfl (by kernel_rfl) ?_ ?_ ?_
       rotate_left 2
       ·intro w';go_simp;with_reducible rfl
       ·simp only [Act.put,putA,putZ,putS,abq,abk];rfl
       refine tk_ 6 63 ?_ ?_ (bl 9 127) rfl rfl (by kernel_rfl) hHeld ?_ ?_ ?_
       rotate_left 2
       ·rintro w' ⟨s0,s1⟩;go_simp;with_reducible rfl
       ·simp only [Act.put,putA,putZ,putS,abq,abk];rfl
       refine one_ (i:=7) (N:=some 64) (bl 9 255) rfl rfl (by kernel_rfl) (by decide) (fun K hK=>?_)
       refine aFq Tryz.func241 (by kernel_rfl) rfl #[.int .i64 ((apk l0).length:Int)] (by rfl) rfl rfl (by simp only [List.map_toArray,List.map_cons,List.map_nil];first|done|rfl) ?_
       with_reducible refine(dict_width.calls _ _ _ HWF.out).mono ?_
       rintro e w3 ⟨rfl,hb⟩
       refine⟨_,rfl,?_⟩
       have HB3:=Qz.k (aaz (aez HB.out) hb)
       have HI3:=Qz.k (ajq.below HI.out.drew hb)
       clear hb
       refine hK.out _ _ ⟨(HEQ.out _ HB3.out).1,(HEQ.out _ HB3.out).2⟩ (fun hHeld=>?_)
       clear hK K
       refine aHz (a':=?_) ?_ ?_
       rotate_left
       ·show Act.put _ (some 64) _=_
        simp only [Act.put,putA,putZ,putS,abq,abk]
        rfl
       refine bdz (i:=8) (N:=some 65) (bl 9 511) rfl rfl (by kernel_rfl) (by decide) (fun K hK=>?_)
       refine aFq Tryz.func236 (by kernel_rfl) rfl #[.pointer (some ⟨w5.heap.size,0,none⟩),.int .u64 (p:Int),.int .i64 (wD (apk l0).length:Int)] (by rfl) rfl rfl (by simp only [List.map_toArray,List.map_cons,List.map_nil];first|done|rfl) ?_
       with_reducible refine(bits_Writer_Put.calls _ _ _ _ _ _ w5 _ HI3.out HB3.out HPF.out).mono ?_
       rintro e w4 ⟨rfl,hi,hb,hk⟩
       refine⟨_,rfl,?_⟩
       have HB4:=Qz.k hb
       have HI4:=Qz.k hi
       clear hi hb hk
       refine hK.out _ _ ?_
       clear hK K
       refine aHz (a':=?_) ?_ ?_
       rotate_left
       ·show Act.put _ (some 65) _=_
        simp only [Act.put,putA,putZ,putS,abq,abk]
        rfl
       refine aPz (by kernel_rfl) ?_
       go_wp2
       go_roundg (l0.length-(j+1))
       case measure=>exact(by have:=HN.out;omega)
       case rel=>
        rw [HW.out]
        exact⟨j+1,rfl,rfl,hlt,HI4,HB4⟩
      ·have c3:decide ((j:Int)<(l0.length:Int))=false:=decide_eq_false (by omega)
       have c4:decide (j<l0.length)=false:=decide_eq_false hlt
       obtain rfl:j=l0.length:=by omega
       have hel:l0.take l0.length=l0:=List.take_length
       rw [hel]at HI
       have HPL2:=Qz.k (show(aGk (apk l0) l0).length≤65536*16 from by have:=HPL.out l0.length (Nat.le_refl _);rw [hel]at this;exact this)
       have HPK:=Qz.k (aBk (aGk (apk l0) l0))
       have HBF:=Qz.k (show bits_Writer_Bytes.f (aGk (apk l0) l0)=some (pack (aGk (apk l0) l0),aGk (apk l0) l0)from if_pos (by have:=HPL2.out;omega))
       have HFB2:=Qz.k (a5k (apk l0))
       have HVL:=Qz.k (avk (apk l0).length (by have:=HDL.out;omega))
       clear hel hj hlt HPL
       go_wp2_with (first
        |(go_at_call 237;refine(bits_Writer_Bytes.calls _ _ _ _ w5 _ HI.out HB.out HBF.out).mono ?_;rintro e w6 ⟨v6,rfl,ho,hi,hb,hk⟩;have HO7:=Qz.k (Kd.ahz HO5.out hb);have HX7:=Qz.k ho;have HB7:=Qz.k (b4q HB5.out (afq HB5.out) hb);clear ho hi hb hk;obtain⟨A6,q6,e6⟩:=Kd.afz HX7.out;subst e6)
        |((with_reducible refine agk (b := .append) (xs:=#[.tmp 67,.tmp 69]) rfl ?_);at_builtin;refine Kd.ahq (Kd.int .u8) (w0:=w) w.heap.size rfl (.tmp 67) (.tmp 69) 27 5 (.int .u8 0) 1 rfl Tryz.underlying27 info5 rfl (by decide) (by omega) v5 (vn (apk l0).length++a2q (apk l0)) (pack (aGk (apk l0) l0)) A6 _ q6 (fun _=>True) (fun _=>False) rfl rfl HO7.out (Kd.ack HX7.out).2.2 (fun _ _ h=>h) (fun _ h=>h.elim) (fun _ _=>trivial) HB7.out HB7.out.size (by have:=HVL.out;have:=HFB2.out;have:=HDL.out;have:=HPK.out;have:=HPL2.out;rw [List.length_append];omega) ?_;intro v8 w8 ho8 hb8 hg8 hat8;have HO8:=Qz.k ho8;have HB8:=Qz.k hb8;clear ho8 hb8 hg8 hat8))
       go_ret2
       rw [←H.out]
       exact⟨_,rfl,HO8.out,HB8.out⟩
end Go.Proofs.YthggdomocichdaaGreatDoor.P
