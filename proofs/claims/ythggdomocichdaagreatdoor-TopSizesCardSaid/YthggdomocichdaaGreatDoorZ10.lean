/- Put together: Bits, BitsW, BitP, BitSW, Px6. -/
import Derived.OneCell
import Derived.RegionTactic
import Derived.BigRegion
import Derived.Outline
import Derived.Test.YthggdomocichdaaGreatDoorZ14
import Derived.Test.YthggdomocichdaaGreatDoorZ15
set_option maxRecDepth 100000
set_option linter.unusedVariables false
set_option linter.unusedSimpArgs false
namespace Go.Proofs.YthggdomocichdaaGreatDoor.Kit
open Go.RowKit Go.Proofs.YthggdomocichdaaGreatDoorW.PrintWords Go.Proofs.YthggdomocichdaaGreatDoorW.PrintLast Go.Proofs.YthggdomocichdaaGreatDoorW.PrintMore
theorem k8_or (x:Int)(h0:0≤x)(h1:x<256):Go.bits .or .u8 x 128=x%128+128:=by
 obtain⟨n,rfl⟩:=Int.eq_ofNat_of_zero_le h0
 have key:∀ n:Fin 256,Go.bits .or .u8 ((n:Nat):Int) 128=((n:Nat):Int)%128+128:=by decide +kernel
 exact key ⟨n,by omega⟩
theorem k8_clear (x:Int)(h0:0≤x)(h1:x<256):Go.bits .andNot .u8 x 128=x%128:=by
 obtain⟨n,rfl⟩:=Int.eq_ofNat_of_zero_le h0
 have key:∀ n:Fin 256,Go.bits .andNot .u8 ((n:Nat):Int) 128=((n:Nat):Int)%128:=by decide +kernel
 exact key ⟨n,by omega⟩
theorem a2z (n:Int)(h₀ : 0≤n)(h₁ : n<2 ^ 64):IntKind.u64.wrap n=n:=by
 rw [aMq]
 omega
theorem aOq (n:Int)(h₀ : 0≤n)(h₁ : n<18446744073709551616):IntKind.u64.wrap n=n:=by
 rw [aMq]
 omega
theorem k64_or_add (i:Nat)(a b:Int)(ha0:0≤a)(ha:a<2 ^ i)(hb0:0≤b)(hb:b%2 ^ i=0)(hb1:b<2 ^ 64)(ha1:a<2 ^ 64):Go.bits .or .u64 a b=a+b:=by
 have h:=bits_join .u64 64 (by decide) a2z i b a hb0 hb hb1 ha0 ha ha1
 obtain⟨x,rfl⟩:=Int.eq_ofNat_of_zero_le ha0
 obtain⟨y,rfl⟩:=Int.eq_ofNat_of_zero_le hb0
 have hx:x<2 ^ 64:=by exact_mod_cast ha1
 have hy:y<2 ^ 64:=by exact_mod_cast hb1
 rw [(bits_nat .u64 64 (by decide) a2z x y hx hy).2,Nat.or_comm,←(bits_nat .u64 64 (by decide) a2z y x hy hx).2,h,Int.add_comm]
theorem bmq (i:Nat)(a b:Int)(ha0:0≤a)(ha:a<2 ^ i)(hb0:0≤b)(hb:b%2 ^ i=0)(hb1:b<2 ^ 64)(ha1:a<2 ^ 64):Go.bits .or .u64 b a=b+a:=bits_join .u64 64 (by decide) a2z i b a hb0 hb hb1 ha0 ha ha1
theorem k64_and1 (v:Int)(h0:0≤v)(h1:v<18446744073709551616):Go.bits .and .u64 v 1=v%2:=bits_mask .u64 64 (by decide) a2z 1 (by decide) v h0 (by omega)
theorem k64_xor_nat (a b:Nat)(ha:a<2 ^ 64)(hb:b<2 ^ 64):Go.bits .xor .u64 (a:Int) (b:Int)=((a ^^^ b:Nat):Int):=by
 rw [show Go.bits .xor .u64 (a:Int) (b:Int)=IntKind.u64.wrap ((BitVec.ofInt 64 (a:Int) ^^^ BitVec.ofInt 64 (b:Int)).toNat:Int)from rfl,BitVec.toNat_xor,BitVec.ofInt_natCast,BitVec.ofInt_natCast,BitVec.toNat_ofNat,BitVec.toNat_ofNat,Nat.mod_eq_of_lt ha,Nat.mod_eq_of_lt hb]
 exact a2z _ (Int.natCast_nonneg _) (by exact_mod_cast Nat.xor_lt_two_pow ha hb)
theorem k_shl (x y:Int)(n:Nat)(hy:y=(n:Int))(hn:n≤64)(h0:0≤x*2 ^ n)(h1:x*2 ^ n<18446744073709551616):shl .u64 x y=x*2 ^ n:=by
 subst hy
 unfold shl
 rw [Int.toNat_natCast,show min n IntKind.u64.bits=n from Nat.min_eq_left hn,aOq _ h0 h1]
end Go.Proofs.YthggdomocichdaaGreatDoor.Kit
namespace Go.Proofs.YthggdomocichdaaGreatDoor.P
open Go.RowKit Go.Proofs.YthggdomocichdaaGreatDoor.Kit Go.Proofs.YthggdomocichdaaGreatDoorW.PrintWords Go.Proofs.YthggdomocichdaaGreatDoorW.PrintLast Go.Proofs.YthggdomocichdaaGreatDoorW.PrintMore
attribute [local go_sem] awq awz aCq aCz azk azq aFz aEk
def Wr (W:World)(B:Nat)(ok:Nat→Prop)(g:Nat)(b:List Int)(n:Nat):Prop:=
 ∃ v,W.heap[g]? = some (.cells #[v,.int .i64 (n:Int)] 234 (0,0))∧B≤g∧Kd.R (Kd.int .u8) 5 W B (fun k=>k≠g∧ok k) v b
theorem bbz {W:World}{g t:Nat}{u v:Value}(h:W.heap[g]? = some (.cells #[u,v] t (0,0))):W.cell? ⟨g,0,none⟩=some u∧W.cell? ⟨g,1,none⟩=some v∧W.frozen? ⟨g,0,none⟩=false∧W.frozen? ⟨g,1,none⟩=false:=by
 simp [World.cell?,World.frozen?,h]
theorem wrap64_in {n:Int}(h0:0≤n)(h1:n≤9223372036854775807):wrap64 n=n:=by
 unfold wrap64
 omega
theorem tmod8 (m s:Nat)(hs:s=7-m%8):wrap64 (7-Int.tmod (m:Int) 8)=(s:Int):=by
 have e:7-Int.tmod (m:Int) 8=(s:Int):=by
  rw [Int.tmod_eq_emod_of_nonneg (by omega)]
  omega
 rw [e]
 exact wrap64_in (by omega) (by omega)
theorem put_facts (m l:Nat)(hl:m/8<l)(hm:(m:Int)<16777300):∃ s:Nat,0≤(m:Int)/8∧(m:Int)/8<(l:Int)∧m/8<l∧((m:Int)/8).toNat=m/8∧wrap64 ((m:Int)/8)=(m:Int)/8∧wrap64 ((m:Int)+1)=(m:Int)+1∧wrap64 (7-Int.tmod (m:Int) 8)=(s:Int)∧s≤7∧(s:Int)≤8∧s=7-m%8:=
 ⟨7-m%8,by omega,by omega,hl,by omega,wrap64_in (by omega) (by omega),wrap64_in (by omega) (by omega),tmod8 m _ rfl,by omega,by omega,rfl⟩
def putBit (b:List Int)(n:Nat)(bit:Int):List Int:=
 (if n%8=0 then b ++ [0]else b).set (n/8) (Go.bits .or .u8 (rd (if n%8=0 then b ++ [0]else b) ((n/8:Nat):Int)) (bit*2 ^ (7-n%8)))
theorem put_val (m k w:Nat)(v bit val:Int)(b2:List Int)(s:Nat)(hv0:0≤v)(hv1:v≤18446744073709551615)(hbit:Go.bits .and .u64 (v/2 ^ (w-1-k)) 1%256=bit)(hs:s=7-m%8)
  (hval:Go.bits .or .u8 (rdOf 0 b2 ((m:Int)/8)) (IntKind.u8.wrap (bit*2 ^ s))=val):val=Go.bits .or .u8 (rd b2 ((m/8:Nat):Int)) (v/2 ^ (w-1-k)%2*2 ^ (7-m%8)):=by
 have hp:(0:Int)<2 ^ (w-1-k):=Int.pow_pos (by decide)
 have h0:0≤v/2 ^ (w-1-k):=Int.ediv_nonneg hv0 (by omega)
 have h1:v/2 ^ (w-1-k)≤v:=Int.ediv_le_self _ hv0
 rw [k64_and1 _ h0 (by omega)]at hbit
 have e1:bit=v/2 ^ (w-1-k)%2:=by omega
 have e2:IntKind.u8.wrap (bit*2 ^ s)=v/2 ^ (w-1-k)%2*2 ^ (7-m%8):=by
  rw [←e1,←hs,IntKind.wrap_u8]
  have h2:bit=0∨bit=1:=by omega
  have h3:∀ s:Fin 8,(2:Int) ^ (s:Nat)%256=2 ^ (s:Nat):=by decide +kernel
  have h4:=h3 ⟨s,by omega⟩
  rcases h2 with h2|h2
  ·rw [h2]
   simp
  ·rw [h2]
   simpa using h4
 rw [←hval,e2]
 rfl
theorem put_len (m:Nat)(b' b2:List Int)(val:Int)(h1:b'.length*8≤m+7∧m≤b'.length*8)(h2:m/8<b2.length)(h3:(if m%8=0 then b' ++ [0]else b')=b2):(b2.set (m/8) val).length*8≤m+1+7∧m+1≤(b2.set (m/8) val).length*8:=by
 have h4:b2.length=if m%8=0 then b'.length+1 else b'.length:=by
  rw [←h3]
  split <;> simp
 rw [List.length_set]
 split at h4 <;> omega
def a5z : Nat→Int→Nat→List Int→Nat→List Int
 | 0,_,_,b,_=>b
 |d+1,v,w,b,n=>a5z d v w (putBit b n (v/2 ^ (w-1-(w-(d+1)))%2)) (n+1)
set_option maxHeartbeats 1000000 in
theorem Put_good (w0 W:World)(ok:Nat→Prop)(g:Nat)(b:List Int)(n:Nat)(v:Int)(w:Nat)(hB:Below w0.heap.size w0 W)(h:Wr W w0.heap.size ok g b n)(hok:∀ k,W.heap.size≤k→ok k)(hv0:0≤v)(hv1:v≤18446744073709551615)(hw:w≤64)(hl:Lib.bitLen v.toNat≤w)(hn:n+64<16777216)(hb:b.length*8≤n+7∧n≤b.length*8) :
  Calls Tryz.prog 236 #[.pointer (some ⟨g,0,none⟩),.int .u64 v,.int .i64 (w:Int)] W fun e W'=>e=.returned (.int .i64 0)∧Wr W' w0.heap.size ok g (a5z w v w b n) (n+w)∧Below w0.heap.size w0 W'∧Kept W W' (fun k=>k=g∨ok k):=by
 obtain⟨vb,hg,hBg,hR⟩:=h
 have hwr:bits_wrong.f (w:Int)=some false:=by
  unfold bits_wrong.f
  rw [if_neg (by omega)]
  simp
  omega
 have hwd:bits_Width.f v=some (Lib.bitLen v.toNat:Int):=by
  unfold bits_Width.f bits_Len64.f
  rw [if_pos ⟨hv0,hv1⟩,Option.bind_some]
 have HG:=Qz.k hg
 have HR:=Qz.k hR
 have HB:=Qz.k hB
 have HWR:=Qz.k hwr
 have HWD:=Qz.k hwd
 have c1:decide ((w:Int)<(Lib.bitLen v.toNat:Int))=false:=decide_eq_false (by omega)
 have c2:decide (w<Lib.bitLen v.toNat)=false:=decide_eq_false (by omega)
 clear hg hR hB hwr hwd
 go_enter Tryz.func236,Tryz.ntmps236
 go_wp2_with (first|(go_at_call 292;refine(bits_wrong.calls _ _ _ HWR.out).mono ?_;rintro e w1 ⟨rfl,⟨nd,rfl⟩⟩)|(go_at_call 291;refine(bits_Width.calls _ _ _ HWD.out).mono ?_;rintro e w1 ⟨rfl,⟨nd2,rfl⟩⟩))
 have hWr:Wr (W.drewN (nd+nd2)) w0.heap.size ok g b n:=⟨vb,HG.out,hBg,HR.out⟩
 have HWr:=Qz.k hWr
 have HK:=Qz.k (Kept.refl W (fun k=>k=g∨ok k))
 have HBd:=Qz.k hb
 clear hWr HG HR HWR HWD c1 c2 hb
 go_loopg [22] w (fun kq v22 W'=>∃ (k m:Nat) (b':List Int),v22=.int .i64 (k:Int)∧kq=w-k∧k≤w∧Qz (m=n+k)∧Qz (a5z (w-k) v w b' m=a5z w v w b n)∧Qz (b'.length*8≤m+7∧m≤b'.length*8)∧Qz (Wr W' w0.heap.size ok g b' m)∧Qz (Below w0.heap.size w0 W')∧Qz (Kept W W' (fun k=>k=g∨ok k)))
 case atStart=>exact⟨0,n,b,rfl,rfl,Nat.zero_le _,⟨rfl⟩,⟨rfl⟩,HBd,HWr,⟨adz HB.out _⟩,⟨Kept.drewN HK.out _⟩⟩
 case round=>
  clear HWr HB HK HBd
  obtain⟨k,m,b',rfl,rfl,hk,HM,HP,HBd,HWr,HB,HK⟩:=hrel
  by_cases hlt:k<w
  ·have c3:decide ((k:Int)<(w:Int))=true:=decide_eq_true (by omega)
   have c4:decide (k<w)=true:=decide_eq_true hlt
   obtain⟨vb',hg',hBg',hR'⟩:=HWr.out
   obtain⟨A1,q1,e1⟩:=Kd.afz hR'
   subst e1
   obtain⟨x0,x1,f0,f1⟩:=bbz hg'
   have HG:=Qz.k hg'
   have HR:=Qz.k hR'
   clear hg' hR' HWr
   have HM1:=Qz.k (show(m:Int)<16777300 by have:=HM.out;omega)
   have HN:=Qz.k hn
   clear hn
   go_upto_if 30 with(fail)
   go_cut [] (fun wc=>∃ (A2:Option Addr) (q2:Nat),Qz (wc.heap[g]? = some (.cells #[.slice A2 (if m%8=0 then b' ++ [0]else b').length q2,.int .i64 (m:Int)] 234 (0,0)))∧Qz (Kd.R (Kd.int .u8) 5 wc w0.heap.size (fun k=>k≠g∧ok k) (.slice A2 (if m%8=0 then b' ++ [0]else b').length q2) (if m%8=0 then b' ++ [0]else b'))∧Qz (Below w0.heap.size w0 wc)∧Qz (Kept W wc (fun k=>k=g∨ok k)))
   case first=>
    by_cases hz:m%8=0
    ·have c5:((m:Int)%8 == 0)=true:=beq_iff_eq.2 (by omega)
     have hgr:g<wr.heap.size:=lt_of_block HG.out
     have HBD:=Qz.k (HBd.out)
     have HZ:=Qz.k hz
     clear hz
     go_wp2_with ((with_reducible refine agk (b := .append) (xs:=#[.tmp 35,.tmp 36]) rfl ?_);at_builtin;refine Kd.aVq (Kd.int .u8) (w0:=w0) w0.heap.size rfl (.tmp 35) (.tmp 36) 27 5 (.int .u8 0) 1 rfl Tryz.underlying27 info5 rfl (by decide) (by omega) (.slice A1 b'.length q1) b' 0 [.int .u8 0] (fun k=>k≠g∧ok k) (fun _=>False) rfl rfl ?aP (fun _ hk=>hk.elim) ?aF ?aO ?aB ?aS ?aL ?_;(case aP=>exact rfl);(case aB=>exact HB.out);(case aF=>exact(fun k hk=>⟨fun e=>by omega,hok k (Nat.le_trans HK.out.1 hk)⟩));(case aO=>exact HR.out);(case aS=>exact HB.out.size);(case aL=>have:=HBD.out;have:=HM1.out;omega);intro v1 w9 ho hb1 hgr1 hat;have HR9:=Qz.k ho;have HB9:=Qz.k hb1;have HG9:=Qz.k ((hgr1.block g hgr (Kd.R_away HR.out (fun k hk=>hk.1))).trans HG.out);have HK9:=Qz.k (Kept.of_grown hgr1 HK.out (fun k hk=>.inl (.inr (HR.out.1 k hk).2)));clear ho hb1 hgr1 hat;obtain⟨A9,q9,e9⟩:=Kd.afz HR9.out;subst e9;obtain⟨x90,x91,f90,f91⟩:=bbz HG9.out)
     go_meet
     case rel=>
      rw [if_pos HZ.out]
      exact⟨A9,q9,⟨anq HG9.out 0 _ (by rw [List.length_append];rfl)⟩,⟨Kd.aQq HR9.out (p:=⟨g,0,none⟩) (fun k hk=>hk.1) _⟩,⟨adq HB9.out hBg'⟩,⟨Kept.setCell HK9.out (.inl (.inl rfl)) _⟩⟩
    ·have c5:((m:Int)%8 == 0)=false:=beq_eq_false_iff_ne.2 (by omega)
     have HZ:=Qz.k hz
     clear hz
     go_wp2
     go_meet
     case rel=>
      rw [if_neg HZ.out]
      exact⟨A1,q1,HG,HR,HB,HK⟩
   case rest=>
    obtain⟨A2,q2,HG2,HR2,HB2,HK2⟩:=hcut
    clear HG HR HB HK x0 x1 f0 f1
    obtain⟨b2,hb2⟩:∃ b2,(if m%8=0 then b' ++ [0]else b')=b2:=⟨_,rfl⟩
    rw [hb2]at HG2 HR2
    have HL:=Qz.k (show m/8<b2.length by
     rw [←hb2]
     have:=HBd.out
     split
     ·rw [List.length_append,List.length_singleton]
      omega
     ·omega)
    have HB2L:=Qz.k hb2
    clear hb2
    obtain⟨q,q3,eq,qb,ql,qc,hq⟩:=Kd.bjz HR2.out (by have:=HL.out;omega)
    injection eq with ea_ en_ ec_
    subst ea_ ec_
    clear en_
    obtain⟨x0,x1,f0,f1⟩:=bbz HG2.out
    obtain⟨x2,f2⟩:=Kd.aUq 0 HR2.out ((m/8:Nat):Int) (by omega) (by have:=HL.out;omega)
    rw [Int.toNat_natCast]at x2 f2
    have HGQ:=Qz.k (show g≠q from fun e=>(HR2.out.1 q rfl).1 e.symm)
    go_upto_region 9 with(fail)
    generalize hbit:Go.bits .and .u64 (v/2 ^ (w-1-k)) 1%256=bit
    have HBIT:=Qz.k hbit
    clear hbit
    obtain⟨s,i0,i1,i2,i3,i4,i5,i6,i7,i8,hs⟩:=put_facts m b2.length HL.out HM1.out
    have HS:=Qz.k hs
    clear hs
    refine axq (n:=22) (S:=fun w'=>w'.cell? ⟨g,0,none⟩=some (.slice (some ⟨q,0,none⟩) b2.length q2)∧w'.cell? ⟨g,1,none⟩=some (.int .i64 (m:Int))∧w'.cell? ⟨q,m/8,none⟩=some (.int .u8 (rdOf 0 b2 ((m/8:Nat):Int)))∧w'.frozen? ⟨q,m/8,none⟩=false) (ds:=[21]) (bl 22 0) (by kernel_rfl) rfl rfl ⟨x0,x1,x2,f2⟩ (fun hHeld=>?_)
    refine pu_ 0 48 ?_ ?_ (bl 22 1) rfl rfl (by kernel_rfl) ?_ ?_ ?_
    rotate_left 2
    ·intro w';go_simp;with_reducible rfl
    ·simp only [Act.put,putA,putZ,putS,abq,abk];rfl
    refine pu_ 1 49 ?_ ?_ (bl 22 3) rfl rfl (by kernel_rfl) ?_ ?_ ?_
    rotate_left 2
    ·intro w';go_simp;with_reducible rfl
    ·simp only [Act.put,putA,putZ,putS,abq,abk];rfl
    refine pu_ 2 50 ?_ ?_ (bl 22 7) rfl rfl (by kernel_rfl) ?_ ?_ ?_
    rotate_left 2
    ·intro w';go_simp;with_reducible rfl
    ·simp only [Act.put,putA,putZ,putS,abq,abk];rfl
    refine pu_ 4 52 ?_ ?_ (bl 22 23) rfl rfl (by kernel_rfl) ?_ ?_ ?_
    rotate_left 2
    ·intro w';go_simp;with_reducible rfl
    ·simp only [Act.put,putA,putZ,putS,abq,abk];rfl
    refine pu_ 5 53 ?_ ?_ (bl 22 55) rfl rfl (by kernel_rfl) ?_ ?_ ?_
    rotate_left 2
    ·intro w';go_simp;with_reducible rfl
    ·simp only [Act.put,putA,putZ,putS,abq,abk];rfl
    refine pu_ 6 54 ?_ ?_ (bl 22 119) rfl rfl (by kernel_rfl) ?_ ?_ ?_
    rotate_left 2
    ·intro w';go_simp;with_reducible rfl
    ·simp only [Act.put,putA,putZ,putS,abq,abk];rfl
    refine pu_ 11 59 ?_ ?_ (bl 22 2167) rfl rfl (by kernel_rfl) ?_ ?_ ?_
    rotate_left 2
    ·intro w';go_simp;with_reducible rfl
    ·simp only [Act.put,putA,putZ,putS,abq,abk];rfl
    refine pu_ 12 60 ?_ ?_ (bl 22 6263) rfl rfl (by kernel_rfl) ?_ ?_ ?_
    rotate_left 2
    ·intro w';go_simp;with_reducible rfl
    ·simp only [Act.put,putA,putZ,putS,abq,abk];rfl
    refine pu_ 13 61 ?_ ?_ (bl 22 14455) rfl rfl (by kernel_rfl) ?_ ?_ ?_
    rotate_left 2
    ·intro w';go_simp;with_reducible rfl
    ·simp only [Act.put,putA,putZ,putS,abq,abk];rfl
    refine pu_ 14 62 ?_ ?_ (bl 22 30839) rfl rfl (by kernel_rfl) ?_ ?_ ?_
    rotate_left 2
    ·intro w';go_simp;with_reducible rfl
    ·simp only [Act.put,putA,putZ,putS,abq,abk];rfl
    refine tk_ 3 51 ?_ ?_ (bl 22 30847) rfl rfl (by kernel_rfl) hHeld ?_ ?_ ?_
    rotate_left 2
    ·rintro w' ⟨s0,s1,s2,s3⟩;go_simp;with_reducible rfl
    ·simp only [Act.put,putA,putZ,putS,abq,abk];rfl
    refine tk_ 7 55 ?_ ?_ (bl 22 30975) rfl rfl (by kernel_rfl) hHeld ?_ ?_ ?_
    rotate_left 2
    ·rintro w' ⟨s0,s1,s2,s3⟩;go_simp;with_reducible rfl
    ·simp only [Act.put,putA,putZ,putS,abq,abk];rfl
    refine pu_ 8 56 ?_ ?_ (bl 22 31231) rfl rfl (by kernel_rfl) ?_ ?_ ?_
    rotate_left 2
    ·intro w';go_simp;with_reducible rfl
    ·simp only [Act.put,putA,putZ,putS,abq,abk];rfl
    refine pu_ 9 57 ?_ ?_ (bl 22 31743) rfl rfl (by kernel_rfl) ?_ ?_ ?_
    rotate_left 2
    ·intro w';go_simp;with_reducible rfl
    ·simp only [Act.put,putA,putZ,putS,abq,abk];rfl
    refine tk_ 10 58 ?_ ?_ (bl 22 32767) rfl rfl (by kernel_rfl) hHeld ?_ ?_ ?_
    rotate_left 2
    ·rintro w' ⟨s0,s1,s2,s3⟩;go_simp;with_reducible rfl
    ·simp only [Act.put,putA,putZ,putS,abq,abk];rfl
    refine tk_ 15 63 ?_ ?_ (bl 22 65535) rfl rfl (by kernel_rfl) hHeld ?_ ?_ ?_
    rotate_left 2
    ·rintro w' ⟨s0,s1,s2,s3⟩;go_simp;with_reducible rfl
    ·simp only [Act.put,putA,putZ,putS,abq,abk];rfl
    refine pu_ 16 64 ?_ ?_ (bl 22 131071) rfl rfl (by kernel_rfl) ?_ ?_ ?_
    rotate_left 2
    ·intro w';go_simp;with_reducible rfl
    ·simp only [Act.put,putA,putZ,putS,abq,abk];rfl
    refine pu_ 17 65 ?_ ?_ (bl 22 262143) rfl rfl (by kernel_rfl) ?_ ?_ ?_
    rotate_left 2
    ·intro w';go_simp;with_reducible rfl
    ·simp only [Act.put,putA,putZ,putS,abq,abk];rfl
    refine pu_ 18 66 ?_ ?_ (bl 22 524287) rfl rfl (by kernel_rfl) ?_ ?_ ?_
    rotate_left 2
    ·intro w';go_simp;with_reducible rfl
    ·simp only [Act.put,putA,putZ,putS,abq,abk];rfl
    refine pu_ 19 67 ?_ ?_ (bl 22 1048575) rfl rfl (by kernel_rfl) ?_ ?_ ?_
    rotate_left 2
    ·intro w';go_simp;with_reducible rfl
    ·simp only [Act.put,putA,putZ,putS,abq,abk];rfl
    refine pu_ 20 68 ?_ ?_ (bl 22 2097151) rfl rfl (by kernel_rfl) ?_ ?_ ?_
    rotate_left 2
    ·intro w';go_simp;with_reducible rfl
    ·simp only [Act.put,putA,putZ,putS,abq,abk];rfl
    refine bdz (i:=21) (N:=none) (bl 22 4194303) rfl rfl (by kernel_rfl) (by decide) (fun K hK=>?_)
    refine bbk (w1:=?_) (by rfl) rfl ?_ ?_
    rotate_left
    ·go_simp
     rfl
    refine hK.out _ _ ?_
    clear hK K
    refine aPz (by kernel_rfl) ?_
    generalize hval:Go.bits .or .u8 (rdOf 0 b2 ((m:Int)/8)) (IntKind.u8.wrap (bit*2 ^ s))=val
    have HV:=Qz.k hval
    clear hval
    have HG3:=Qz.k (blk_far HG2.out (p:=⟨q,m/8,none⟩) (fun e=>HGQ.out e) (Value.int IntKind.u8 val))
    clear x0 x1 f0 f1 x2 f2
    obtain⟨x0,x1,f0,f1⟩:=bbz HG3.out
    go_wp2
    go_roundg (w-(k+1))
    case measure=>omega
    case rel=>
     have HV2:=Qz.k (put_val m k w v bit val b2 s hv0 hv1 HBIT.out HS.out HV.out)
     clear i0 i1 i2 i3 i4 i5 i6 i7 i8 hv0 hv1 hl c3 c4
     refine⟨k+1,m+1,b2.set (m/8) val,by go_num,rfl,hlt,⟨by rw [HM.out];rfl⟩,⟨?_⟩,⟨?_⟩,⟨?_⟩,⟨?_⟩,⟨?_⟩⟩
     ·rw [←HP.out,show w-k=(w-(k+1))+1 by omega,a5z,show w-(w-(k+1)+1)=k by omega]
      unfold putBit
      rw [HB2L.out,HV2.out]
     ·exact put_len m b' b2 val HBd.out HL.out HB2L.out
     ·have h5:=Kd.bCq HR2.out ((m/8:Nat):Int) val
      rw [Int.toNat_natCast]at h5
      exact⟨_,anq (aoz HG3.out) 1 _ rfl,hBg',Kd.aQq (Kd.amz h5) (p:=⟨g,1,none⟩) (fun k hk=>hk.1) _⟩
     ·exact adq (aez (adq HB2.out qb)) hBg'
     ·exact Kept.setCell (Kept.drew (Kept.setCell HK2.out (.inl (.inr (HR2.out.1 q rfl).2)) _)) (.inl (.inl rfl)) _
  ·have c3:decide ((k:Int)<(w:Int))=false:=decide_eq_false (by omega)
   have c4:decide (k<w)=false:=decide_eq_false hlt
   go_wp2
   go_ret
   have e:w-k=0:=by omega
   have hp:=HP.out
   rw [e]at hp
   simp only [a5z]at hp
   have hm:=HM.out
   rw [show k=w by omega]at hm
   subst hm
   rw [←hp]
   exact⟨rfl,HWr.out,HB.out,HK.out⟩
theorem Put_bad (g:Nat)(v w:Int)(W:World)(hv0:0≤v)(hv1:v≤18446744073709551615)(h:w<0∨64<w∨w<(Lib.bitLen v.toNat:Int)) :
  Calls Tryz.prog 236 #[.pointer (some ⟨g,0,none⟩),.int .u64 v,.int .i64 w] W fun e W'=>e=.returned (.int .i64 1)∧Drawn0 W W':=by
 have hwd:bits_Width.f v=some (Lib.bitLen v.toNat:Int):=by
  unfold bits_Width.f bits_Len64.f
  rw [if_pos ⟨hv0,hv1⟩,Option.bind_some]
 have HWD:=Qz.k hwd
 clear hwd
 by_cases c:w<0∨64<w
 ·have hwr:bits_wrong.f w=some true:=by
   unfold bits_wrong.f
   by_cases c0:w<0
   ·rw [if_pos c0]
   ·rw [if_neg c0]
    simp
    omega
  have HWR:=Qz.k hwr
  clear hwr h c
  go_enter Tryz.func236,Tryz.ntmps236
  go_wp2_with (first|(go_at_call 292;refine(bits_wrong.calls _ _ _ HWR.out).mono ?_;rintro e w1 ⟨rfl,⟨nd,rfl⟩⟩)|(go_at_call 291;refine(bits_Width.calls _ _ _ HWD.out).mono ?_;rintro e w1 ⟨rfl,⟨nd2,rfl⟩⟩))
  go_ret
  exact⟨rfl,by repeat(first|exact Drawn0.refl _|apply Drawn0.step)⟩
 ·have hwr:bits_wrong.f w=some false:=by
   unfold bits_wrong.f
   rw [if_neg (by omega)]
   simp
   omega
  have HWR:=Qz.k hwr
  have c1:decide (w<(Lib.bitLen v.toNat:Int))=true:=decide_eq_true (by omega)
  clear hwr h c
  go_enter Tryz.func236,Tryz.ntmps236
  go_wp2_with (first|(go_at_call 292;refine(bits_wrong.calls _ _ _ HWR.out).mono ?_;rintro e w1 ⟨rfl,⟨nd,rfl⟩⟩)|(go_at_call 291;refine(bits_Width.calls _ _ _ HWD.out).mono ?_;rintro e w1 ⟨rfl,⟨nd2,rfl⟩⟩))
  go_ret
  exact⟨rfl,by repeat(first|exact Drawn0.refl _|apply Drawn0.step)⟩
theorem bclone_f (l:List Int)(h:l.length<140737488355328):slices_Clone_byte_byte.f l=some l:=by
 unfold slices_Clone_byte_byte.f
 simp [h]
theorem Bytes_good (W:World)(B:Nat)(ok:Nat→Prop)(g:Nat)(b:List Int)(n:Nat)(h:Wr W B ok g b n)(hb:b.length<140737488355328):Calls Tryz.prog 237 #[.pointer (some ⟨g,0,none⟩)] W fun e W'=>∃ v,e=.returned v∧Kd.R (Kd.int .u8) 5 W' W.heap.size (fun _=>True) v b∧Below W.heap.size W W':=by
 obtain⟨vb,hg,hBg,hR⟩:=h
 obtain⟨A1,q1,e1⟩:=Kd.afz hR
 subst e1
 obtain⟨x0,x1,f0,f1⟩:=bbz hg
 have HR:=Qz.k (Kd.ack hR)
 have HC:=Qz.k (bclone_f b hb)
 clear hg hR hb
 go_enter Tryz.func237,Tryz.ntmps237
 go_wp2_with (go_at_call 22;refine(slices_Clone_byte_byte.calls _ _ b b _ HR.out.2.2 HR.out.2.1 HC.out).mono ?_;rintro e w1 ⟨v1,rfl,ho,hb⟩;have HO:=Qz.k ho;have HB:=Qz.k hb;clear ho hb)
 go_ret
 exact⟨_,rfl,HO.out,HB.out⟩
end Go.Proofs.YthggdomocichdaaGreatDoor.P
namespace Go.Proofs.YthggdomocichdaaGreatDoor.P
open Go.RowKit Go.Proofs.YthggdomocichdaaGreatDoor.Kit Go.Proofs.YthggdomocichdaaGreatDoorW.PrintWords Go.Proofs.YthggdomocichdaaGreatDoorW.PrintLast Go.Proofs.YthggdomocichdaaGreatDoorW.PrintMore
def bitsOf : Nat→Int→List Int
 | 0,_=>[]
 |w+1,v=>v/2 ^ w%2 :: bitsOf w v
def is01 (k:List Int):Prop := ∀ x∈k,x=0∨x=1
def bg (k:List Int)(i:Nat):Int:=k.getD i 0
def a3k (k:List Int)(i:Nat):Int:=bg k (8*i)*128+bg k (8*i+1)*64+bg k (8*i+2)*32+bg k (8*i+3)*16+bg k (8*i+4)*8+bg k (8*i+5)*4+bg k (8*i+6)*2+bg k (8*i+7)
def pack (k:List Int):List Int:=(List.range ((k.length+7)/8)).map (a3k k)
theorem auk (w:Nat)(v:Int):(bitsOf w v).length=w:=by
 induction w with
 |zero=>rfl
 |succ w ih=>simp [bitsOf,ih]
theorem bitsOf_01 (w:Nat)(v:Int):is01 (bitsOf w v):=by
 induction w with
 |zero=>intro x hx;simp [bitsOf]at hx
 |succ w ih=>
  intro x hx
  simp only [bitsOf,List.mem_cons]at hx
  rcases hx with rfl|hx
  ·omega
  ·exact ih x hx
theorem is01_nil : is01 []:=fun x hx=>by simp at hx
theorem bNz {a b:List Int}(ha:is01 a)(hb:is01 b):is01 (a++b):=fun x hx=>by
 rcases List.mem_append.1 hx with h|h
 ·exact ha x h
 ·exact hb x h
theorem aMz {k:List Int}{i:Nat}(h:k.length≤i):bg k i=0:=by
 unfold bg
 rw [List.getD_eq_getElem?_getD,List.getElem?_eq_none h]
 rfl
theorem bg01 {k:List Int}(h:is01 k)(i:Nat):bg k i=0∨bg k i=1:=by
 by_cases hi:i<k.length
 ·have:bg k i∈k:=by
   unfold bg
   rw [List.getD_eq_getElem?_getD,List.getElem?_eq_getElem hi]
   exact List.getElem_mem hi
  exact h _ this
 ·exact .inl (aMz (by omega))
theorem bgb {k:List Int}(h:is01 k)(i:Nat):0≤bg k i∧bg k i≤1:=by
 rcases bg01 h i with e|e <;> omega
theorem a6k {a b:List Int}{i:Nat}(h:i<a.length):bg (a++b) i=bg a i:=by
 unfold bg
 rw [List.getD_eq_getElem?_getD,List.getD_eq_getElem?_getD,List.getElem?_append_left h]
theorem bg_right {a b:List Int}{i:Nat}(h:a.length≤i):bg (a++b) i=bg b (i-a.length):=by
 unfold bg
 rw [List.getD_eq_getElem?_getD,List.getD_eq_getElem?_getD,List.getElem?_append_right h]
theorem bg_snoc (k:List Int)(x:Int)(j:Nat):bg (k ++ [x]) j=if j=k.length then x else bg k j:=by
 by_cases h:j<k.length
 ·rw [a6k h,if_neg (by omega)]
 ·rw [bg_right (by omega)]
  by_cases h2:j=k.length
  ·subst h2
   simp [bg]
  ·rw [if_neg h2,aMz (k:=k) (by omega),aMz (by simp;omega)]
theorem bg_rd (k:List Int)(i:Nat):rd k (i:Int)=bg k i:=by simp [rd,bg]
theorem byteAt_bd {k:List Int}(h:is01 k)(i:Nat):0≤a3k k i∧a3k k i<256:=by
 have h0:=bgb h (8*i)
 have h1:=bgb h (8*i+1)
 have h2:=bgb h (8*i+2)
 have h3:=bgb h (8*i+3)
 have h4:=bgb h (8*i+4)
 have h5:=bgb h (8*i+5)
 have h6:=bgb h (8*i+6)
 have h7:=bgb h (8*i+7)
 unfold a3k
 omega
theorem aBk (k:List Int):(pack k).length=(k.length+7)/8:=by simp [pack]
theorem pack_bg (k:List Int)(i:Nat):bg (pack k) i=a3k k i:=by
 by_cases h:i<(k.length+7)/8
 ·simp [bg,pack,List.getD_eq_getElem?_getD,h]
 ·rw [aMz (by rw [aBk];omega)]
  unfold a3k
  rw [aMz (by omega),aMz (by omega),aMz (by omega),aMz (by omega),aMz (by omega),aMz (by omega),aMz (by omega),aMz (by omega)]
  rfl
theorem ext_bg {a b:List Int}(hl:a.length=b.length)(h:∀ i,i<a.length→bg a i=bg b i):a=b:=ext_rd hl fun i hi=>by rw [bg_rd,bg_rd,h i hi]
theorem or8 (o:Int)(h0:0≤o)(h1:o<256)(r:Nat)(hr:r<8)(x:Int)(hx:x=0∨x=1)(hm:o%2 ^ (8-r)=0):Go.bits .or .u8 o (x*2 ^ (7-r))=o+x*2 ^ (7-r):=by
 obtain⟨n,rfl⟩:=Int.eq_ofNat_of_zero_le h0
 have key:∀ (r:Fin 8) (n:Fin 256) (x:Fin 2),((n:Nat):Int)%2 ^ (8-(r:Nat))=0→Go.bits .or .u8 ((n:Nat):Int) (((x:Nat):Int)*2 ^ (7-(r:Nat)))=((n:Nat):Int)+((x:Nat):Int)*2 ^ (7-(r:Nat)):=by decide +kernel
 rcases hx with rfl|rfl
 ·exact key ⟨r,hr⟩ ⟨n,by omega⟩ 0 hm
 ·exact key ⟨r,hr⟩ ⟨n,by omega⟩ 1 hm
theorem putBit_pack (k:List Int)(x:Int)(h01:is01 k)(hx:x=0∨x=1):putBit (pack k) k.length x=pack (k ++ [x]):=by
 have hl:(if k.length%8=0 then pack k ++ [0]else pack k).length=k.length/8+1:=by
  split
  ·rw [List.length_append,aBk,List.length_singleton]
   omega
  ·rw [aBk]
   omega
 have hb:∀ i,bg (if k.length%8=0 then pack k ++ [0]else pack k) i=a3k k i:=by
  intro i
  split
  ·rw [bg_snoc,pack_bg]
   split
   ·next e=>
    rw [aBk]at e
    unfold a3k
    rw [aMz (by omega),aMz (by omega),aMz (by omega),aMz (by omega),aMz (by omega),aMz (by omega),aMz (by omega),aMz (by omega)]
    rfl
   ·rfl
  ·exact pack_bg k i
 unfold putBit
 generalize (if k.length%8=0 then pack k ++ [0]else pack k)=q at hl hb
 refine ext_bg (by rw [List.length_set,hl,aBk,List.length_append,List.length_singleton];omega) fun i hi=>?_
 rw [List.length_set,hl]at hi
 rw [pack_bg]
 by_cases hi2:i=k.length/8
 ·subst hi2
  rw [bg_rd,hb,show bg (q.set (k.length/8) (Go.bits .or .u8 (a3k k (k.length/8)) (x*2 ^ (7-k.length%8)))) (k.length/8)=Go.bits .or .u8 (a3k k (k.length/8)) (x*2 ^ (7-k.length%8))by
   simp [bg,List.getD_eq_getElem?_getD,hl]]
  obtain⟨m,r,hn,hr⟩:∃ m r,k.length=8*m+r∧r<8:=⟨k.length/8,k.length%8,by omega,by omega⟩
  have e1:k.length/8=m:=by omega
  have e2:k.length%8=r:=by omega
  rw [e1,e2]
  have hz:∀ j,r≤j→bg k (8*m+j)=0:=fun j hj=>aMz (by omega)
  have ho:=byteAt_bd h01 m
  rw [or8 _ ho.1 ho.2 r hr x hx ?_]
  ·unfold a3k
   simp only [bg_snoc,hn]
   have hz0:=hz 0
   have hz1:=hz 1
   have hz2:=hz 2
   have hz3:=hz 3
   have hz4:=hz 4
   have hz5:=hz 5
   have hz6:=hz 6
   have hz7:=hz 7
   clear hz ho
   obtain rfl|rfl|rfl|rfl|rfl|rfl|rfl|rfl:r=0∨r=1∨r=2∨r=3∨r=4∨r=5∨r=6∨r=7:=by omega
   all_goals (simp at *;omega)
  ·have hz0:=hz 0
   have hz1:=hz 1
   have hz2:=hz 2
   have hz3:=hz 3
   have hz4:=hz 4
   have hz5:=hz 5
   have hz6:=hz 6
   have hz7:=hz 7
   unfold a3k
   clear hz ho
   obtain rfl|rfl|rfl|rfl|rfl|rfl|rfl|rfl:r=0∨r=1∨r=2∨r=3∨r=4∨r=5∨r=6∨r=7:=by omega
   all_goals (simp at *;omega)
 ·rw [show bg (q.set (k.length/8) (Go.bits .or .u8 (rd q ((k.length/8:Nat):Int)) (x*2 ^ (7-k.length%8)))) i=bg q i by
   simp [bg,List.getD_eq_getElem?_getD,List.getElem?_set,Ne.symm hi2],hb]
  unfold a3k
  rw [a6k (by omega),a6k (by omega),a6k (by omega),a6k (by omega),a6k (by omega),a6k (by omega),a6k (by omega),a6k (by omega)]
theorem putBits_pack (w:Nat)(v:Int):∀ (d:Nat) (k:List Int),d≤w→is01 k→a5z d v w (pack k) k.length=pack (k++bitsOf d v):=by
 intro d
 induction d with
 |zero=>intro k _ _;simp [a5z,bitsOf]
 |succ d ih=>
  intro k hd hk
  have hx:v/2 ^ d%2=0∨v/2 ^ d%2=1:=by omega
  rw [a5z,show w-1-(w-(d+1))=d by omega,putBit_pack k _ hk hx]
  have:=ih (k ++ [v/2 ^ d%2]) (by omega) (bNz hk (by intro x h;simp at h;omega))
  rw [List.length_append,List.length_singleton]at this
  rw [this,bitsOf]
  simp
def ajq (w0 W:World)(g:Nat)(f0:List Int):Prop := ∃ b n,Wr W w0.heap.size (fun _=>True) g b n∧is01 f0∧b=pack f0∧n=f0.length
section
variable {w0 W:World}{g:Nat}{f0:List Int}
theorem ajq.below {W1:World}(h:ajq w0 W g f0)(hw:Below W.heap.size W W1):ajq w0 W1 g f0:=by
 obtain⟨b,n,⟨v,hg,hb,hr⟩,hx⟩:=h
 exact⟨b,n,⟨v,agz hg hw,hb,Kd.ahz hr hw⟩,hx⟩
theorem ajq.alloc (h:ajq w0 W g f0)(o:Obj):ajq w0 (W.alloc o) g f0:=h.below (aaq (Below.refl _ _) o)
theorem ajq.drewN (h:ajq w0 W g f0)(m:Nat):ajq w0 (W.drewN m) g f0:=h.below (adz (Below.refl _ _) m)
theorem ajq.drew (h:ajq w0 W g f0):ajq w0 W.drew g f0:=h.below (aKk (Below.refl _ _))
theorem ajq.set_0 : True:=trivial
theorem ajq.at_ {w':World}{m:Nat}(hq:W.drewN m=w')(h:ajq w0 W g f0):ajq w0 w' g f0:=by
 subst hq
 exact h.drewN m
theorem ajq.ge (h:ajq w0 W g f0):w0.heap.size≤g:=by
 obtain⟨b,n,⟨v,hg,hb,hr⟩,hx⟩:=h
 exact hb
theorem ajq.lt (h:ajq w0 W g f0):g<W.heap.size:=by
 obtain⟨b,n,⟨v,hg,hb,hr⟩,hx⟩:=h
 exact aQk hg
theorem ajq.apart {α : Type}{d:Kd α}{e:Nat}{base:Nat}{ok:Nat→Prop}{v:Value}{xs:List α}(h:ajq w0 W g f0)(ho:d.R e W base ok v xs)(ht:∀ q,q∈e :: d.E→q≠234):d.R e W base (fun k=>ok k∧k≠g) v xs:=by
 obtain⟨b,n,⟨u,hg,hb,hr⟩,hx⟩:=h
 exact Kd.aLk ho hg ht
def Away234 (W:World)(g:Nat)(row:Option Nat):Prop:=some g≠row∧∀ (u:Value) (n:Int),W.heap[g]? = some (.cells #[u,.int .i64 n] 234 (0,0))→∀ k,u.ownBlock=some k→some k≠row
theorem ajq.own_ne {α : Type}{d:Kd α}{e:Nat}{base:Nat}{ok:Nat→Prop}{v:Value}{xs:List α}(h:ajq w0 W g f0)(ho:d.R e W base ok v xs)(ht:e≠234∧e≠5):Away234 W g v.ownBlock:=by
 obtain⟨b,n,⟨u,hg,hb,hr⟩,hx⟩:=h
 refine⟨Kd.R_ne ho hg ht.1,fun u' n' hq' k hk=>?_⟩
 have e1:=hg.symm.trans hq'
 injection e1 with e1
 injection e1 with e1
 injection e1 with e1
 injection e1 with e1
 subst e1
 obtain⟨cells,hc⟩:=Kd.aJz hr k hk
 exact Kd.R_ne ho hc ht.2
theorem ajq.away_new {α : Type}{d:Kd α}{e:Nat}{ok:Nat→Prop}{v:Value}{xs:List α}{W1:World}(h:ajq w0 W g f0)(hw:Below W.heap.size W W1)(ho:d.R e W1 W.heap.size ok v xs):Away234 W1 g v.ownBlock:=by
 obtain⟨b,n,⟨u,hg,hb,hr⟩,hx⟩:=h
 have hlt:=aQk hg
 refine⟨fun e=>?_,fun u' n' hq' k hk e=>?_⟩
 ·have:=Kd.aRz ho g e.symm
  omega
 ·have e1:=(agz hg hw).symm.trans hq'
  injection e1 with e1
  injection e1 with e1
  injection e1 with e1
  injection e1 with e1
  subst e1
  have:=Kd.R_lt hr k hk
  have:=Kd.aRz ho k e.symm
  omega
theorem ajq.grown {W1:World}{row:Option Nat}(h:ajq w0 W g f0)(hw:W.grownBy W1 row)(hne:Away234 W g row):ajq w0 W1 g f0:=by
 obtain⟨b,n,⟨u,hg,hb,hq⟩,hx⟩:=h
 have hn:=hne.2 u _ hg
 refine⟨b,n,⟨u,ark hg hw hne.1,hb,Kd.R_mono (Kd.aUz (ok:=fun k=>(k≠g∧True)∧some k≠row) ?_ hw (fun k hk=>hk.2)) (fun _ hk=>hk.1)⟩,hx⟩
 obtain⟨h0,inner,hr,hreps⟩:=hq
 exact⟨fun k hk=>⟨h0 k hk,hn k hk⟩,inner,hr,hreps⟩
end
theorem ajq.box {w0 W:World}{g:Nat}(hb:W.heap[g]? = some (.cells #[.slice none 0 0,.int .i64 0] 234 (0,0)))(hge:w0.heap.size≤g):ajq w0 W g ([]:List Int):=⟨[],0,⟨_,hb,hge,Kd.ayz _ _ _ _ _⟩,is01_nil,rfl,rfl⟩
def KeepW (w w':World)(g:Nat):Prop:=w.heap.size≤w'.heap.size∧∀ i,i<w.heap.size→i≠g→(∀ cells,w.heap[i]? ≠ some (.cells cells 5 (0,0)))→w'.heap[i]? = w.heap[i]?
def wPut (s:List Int)(v w:Int):Int×List Int:=if w<0∨64<w∨w<(Lib.bitLen v.toNat:Int)then(1,s)else(0,s++bitsOf w.toNat v)
def bits_Writer_Put.f (s:List Int)(v w:Int):Option (Int×List Int):=if s.length+64<16777216∧0≤v∧v≤18446744073709551615 then some (wPut s v w)else none
def bits_Writer_Bytes.f (s:List Int):Option (List Int×List Int):=if s.length<140737488355328 then some (pack s,s)else none
theorem bits_Writer_Put.calls (g:Nat)(s0_0:List Int)(a1 a2:Int)(r1:Int)(r2:List Int)(w0 w:World)(hI:ajq w0 w g s0_0)(hB:Below w0.heap.size w0 w)(h:bits_Writer_Put.f s0_0 a1 a2=some (r1,r2)) :
  Calls Tryz.prog 236 #[.pointer (some ⟨g,0,none⟩),.int .u64 a1,.int .i64 a2] w fun e w'=>e=.returned (.int .i64 r1)∧ajq w0 w' g r2∧Below w0.heap.size w0 w'∧KeepW w w' g:=by
 unfold bits_Writer_Put.f at h
 split at h
 ·next hc=>
  obtain⟨hn,hv0,hv1⟩:=hc
  injection h with h
  unfold wPut at h
  split at h
  ·next h1=>
   injection h with e1 e2
   subst e1 e2
   refine(Put_bad g a1 a2 w hv0 hv1 h1).mono ?_
   rintro e w' ⟨rfl,⟨n,rfl⟩⟩
   exact⟨rfl,hI.drewN n,adz hB n,Nat.le_refl _,fun i hi _ _=>rfl⟩
  ·next h1=>
   obtain⟨m,rfl⟩:=Int.eq_ofNat_of_zero_le (show 0≤a2 by omega)
   rw [Int.toNat_natCast]at h
   injection h with e1 e2
   subst e1 e2
   obtain⟨b,n,⟨vb,hg,hBg,hR⟩,h01,rfl,rfl⟩:=hI
   have hW:Wr w w0.heap.size (fun k=>w.heap.size≤k∨∃ cells,w.heap[k]? = some (.cells cells 5 (0,0))) g (pack s0_0) s0_0.length:=by
    refine⟨vb,hg,hBg,?_⟩
    have hty:=Kd.aJz hR
    obtain⟨h0,inner,hr,hreps⟩:=hR
    exact⟨fun k hk=>⟨(h0 k hk).1,.inr (hty k hk)⟩,inner,hr,hreps⟩
   refine(Put_good w0 w _ g (pack s0_0) s0_0.length a1 m hB hW (fun k hk=>.inl hk) hv0 hv1 (by omega) (by omega) hn (by rw [aBk];omega)).mono ?_
   rintro e w' ⟨rfl,⟨vb',hg',hBg',hR'⟩,hb,hk⟩
   refine⟨rfl,⟨_,_,⟨vb',hg',hBg',Kd.R_mono hR' (fun k hk=>⟨hk.1,trivial⟩)⟩,bNz h01 (bitsOf_01 _ _),?_,?_⟩,hb,hk.1,fun i hi hne h5=>hk.2 i hi ?_⟩
   ·exact putBits_pack m a1 m s0_0 (Nat.le_refl _) h01
   ·rw [List.length_append,auk]
   ·rintro(rfl|h|⟨cells,h⟩)
    ·exact hne rfl
    ·omega
    ·exact h5 cells h
 ·cases h
theorem bits_Writer_Bytes.calls (g:Nat)(s0_0:List Int)(r1:List Int)(r2:List Int)(w0 w:World)(hI:ajq w0 w g s0_0)(hB:Below w0.heap.size w0 w)(h:bits_Writer_Bytes.f s0_0=some (r1,r2)) :
  Calls Tryz.prog 237 #[.pointer (some ⟨g,0,none⟩)] w fun e w'=>∃ v0_:Value,e=.returned v0_∧Kd.R (Kd.int .u8) 5 w' w.heap.size (fun _=>True) v0_ r1∧ajq w0 w' g r2∧Below w0.heap.size w0 w'∧alk w w' g none:=by
 unfold bits_Writer_Bytes.f at h
 split at h
 ·next hc=>
  injection h with h
  injection h with h1 h2
  subst h1 h2
  obtain⟨b,n,hW,h01,e1,e2⟩:=id hI
  refine(Bytes_good w w0.heap.size _ g b n hW (by rw [e1,aBk];omega)).mono ?_
  rintro e w' ⟨v,rfl,ho,hb⟩
  rw [e1]at ho
  exact⟨v,rfl,ho,hI.below hb,aaz hB hb,alk.of_below hb _ _⟩
 ·cases h
end Go.Proofs.YthggdomocichdaaGreatDoor.P
namespace Go.Proofs.YthggdomocichdaaGreatDoor.P
open Go.RowKit Go.Proofs.YthggdomocichdaaGreatDoorW.PrintWords Go.Proofs.YthggdomocichdaaGreatDoorW.PrintLast Go.Proofs.YthggdomocichdaaGreatDoorW.PrintMore
attribute [local go_sem] awq awz aCq aCz azk azq aFz aEk
def forpack_Pack.l0 : Nat→Int→Int→List Int→Int→Int→List Int→Option (List Int×Int)
 | 0,_,_,_,_,_,_=>none
 |k+1,x4,x5,x20,x21,x22,x155000=>if x22<x21 then(if 0≤x22 then(if x22<(x20.length:Int)then((bits_Writer_Put.f x155000 (IntKind.u64.wrap ((rd x20 x22)-x4)) x5).bind fun bt156=>(forpack_Pack.l0 k x4 x5 x20 x21 (wrap64 (x22+1)) bt156.2))else(none))else(none))else((varint_Append.f k ([]:List Int) x4).bind fun t158=>(if t158.length<140737488355328 then((some (t158 ++ [(x5)%256]:List Int)).bind fun y161=>((bits_Writer_Bytes.f x155000).bind fun bt164=>(if y161.length+bt164.1.length<140737488355328 then(some ((y161++bt164.1),0))else(none))))else(none)))
def forpack_Pack.f (k:Nat)(l0:List Int):Option (List Int×Int):=if(l0.length:Int) > 65536 then(some (([]:List Int),4))else((forpack_frame.f l0).bind fun bt152=>(forpack_Pack.l0 k bt152.1 bt152.2 l0 (l0.length:Int) 0 ([]:List Int)))
theorem forpack_Pack.atz : ∀ k,(∀ y0 y1 y2 y3 y4 y5,LeO (forpack_Pack.l0 k y0 y1 y2 y3 y4 y5) (forpack_Pack.l0 (k+1) y0 y1 y2 y3 y4 y5))
 | 0=>fun _ _ _ _ _ _ r h=>by simp [forpack_Pack.l0]at h
 |k+1=>by
  have ih0:=forpack_Pack.atz k
  ·intro y0 y1 y2 y3 y4 y5
   unfold forpack_Pack.l0
   repeat' first
   |(with_reducible exact ih0 _ _ _ _ _ _)
   |(with_reducible exact varint_Append.mono _ _ _)
   |(with_reducible exact LeO.refl _)
   |(with_reducible exact LeO.none _)
   |(with_reducible refine LeO.ite ?_ ?_)
   |(with_reducible refine LeO.bind ?_ (fun _=>?_))
   |exact ih0 _ _ _ _ _ _
   |exact varint_Append.mono _ _ _
   |exact LeO.none _
   |refine LeO.ite ?_ ?_
   |refine LeO.bind ?_ (fun _=>?_)
theorem forpack_Pack.mono : ∀ a0 k,LeO (forpack_Pack.f k a0) (forpack_Pack.f (k+1) a0):=by
 intro a0 k
 have ih0:=forpack_Pack.atz k
 unfold forpack_Pack.f
 repeat' first
   |(with_reducible exact ih0 _ _ _ _ _ _)
   |(with_reducible exact varint_Append.mono _ _ _)
   |(with_reducible exact LeO.refl _)
   |(with_reducible exact LeO.none _)
   |(with_reducible refine LeO.ite ?_ ?_)
   |(with_reducible refine LeO.bind ?_ (fun _=>?_))
   |exact ih0 _ _ _ _ _ _
   |exact varint_Append.mono _ _ _
   |exact LeO.none _
   |refine LeO.ite ?_ ?_
   |refine LeO.bind ?_ (fun _=>?_)
set_option maxHeartbeats 8000000 in
theorem forpack_Pack.calls (k:Nat)(A0:Option Addr)(c0:Nat)(l0:List Int)(r1:List Int)(r2:Int)(w:World)(hr0:Kd.C (Kd.int .u64) w A0 l0.length l0)(hc0:l0.length≤c0)(h:forpack_Pack.f k l0=some (r1,r2)) :
  Calls Tryz.prog 192 #[.slice A0 l0.length c0] w fun e w'=>∃ v0_:Value,e=.returned (.tuple #[v0_,.int .i64 r2])∧Kd.R (Kd.int .u8) 5 w' w.heap.size (fun _=>True) v0_ r1∧Below w.heap.size w w':=by
 have hu234:=Tryz.underlying234
 have HR0:=Qz.k hr0
 have HC0:=Qz.k hc0
 clear hr0 hc0
 have HB:=Qz.k (Below.refl w.heap.size w)
 have H:(if(l0.length:Int) > 65536 then(some (([]:List Int),4))else((forpack_frame.f l0).bind fun bt152=>(forpack_Pack.l0 k bt152.1 bt152.2 l0 (l0.length:Int) 0 ([]:List Int))))=some (r1,r2):=h
 clear h
 by_cases c2:(l0.length:Int) > 65536
 ·rw [if_pos c2]at H
  have c2b0:decide (65536<(l0.length:Int))=true:=decide_eq_true c2
  have c2b1:decide (65536<l0.length)=true:=decide_eq_true (by omega)
  clear c2
  simp only [Option.some.injEq,Prod.mk.injEq]at H
  obtain⟨rfl,rfl⟩:=H
  go_enter Tryz.func192,Tryz.ntmps192
  go_wp2
  go_ret2
  exact⟨_,by first|rfl|(simp [aek,aeq] <;> rfl)|(simp [*,aek,aeq] <;> rfl),by first|exact Kd.ayz _ _ _ _ _|exact Kd.baz _ _ _ _ _|exact Kd.a9z _ _ _ _ _|exact Kd.a9k _ _ _ _ _|exact Kd.a9q _ _ _ _ _,au_⟩
 ·rw [if_neg c2]at H
  have c2b0:decide (65536<(l0.length:Int))=false:=decide_eq_false c2
  have c2b1:decide (65536<l0.length)=false:=decide_eq_false (by omega)
  clear c2
  replace H:=Option.bind_eq_some_iff.mp H
  obtain⟨⟨t152,t153⟩,A30,H⟩:=H
  replace H:(forpack_Pack.l0 k t152 t153 l0 (l0.length:Int) 0 ([]:List Int))=some (r1,r2):=H
  have A3:=Qz.k A30
  clear A30
  have H':=Qz.k H
  clear H
  go_enter Tryz.func192,Tryz.ntmps192
  go_wp2_with (first|((with_reducible refine aiz (f:=235) rfl ?_);refine asq (some 15) rfl rfl Tryz.func235 (by kernel_rfl) rfl #[.slice A0 l0.length c0] rfl (by(try simp only [List.map_toArray,List.map_cons,List.map_nil]);first|done|rfl|(simp only [List.length_drop,List.length_take];rfl)) ?_;(with_reducible refine(forpack_frame.calls _ _ l0 t152 t153 _ ?side1 ?side2 A3.out).mono ?_);(case side1=>repeat(first|exact HR0.out|(with_reducible refine Kd.aqk ?_ _)|(with_reducible refine Kd.aqz ?_ _)|(with_reducible refine Kd.atq ?_)));(case side2=>exact HC0.out);rintro e w4 ⟨rfl,hb⟩;refine⟨_,rfl,?_⟩;have n0_:=Qz.k (aaz au_ hb);clear HB;have HB:=n0_;clear n0_;(try clear hb);(try clear hb2);(try clear hk);(try clear hi))|((with_reducible refine ahk (N:=19) rfl ?_);refine aik ?hg (N:=19) ?hd (cs:=#[.slice none 0 0,.int .i64 0]) (t:=234) ?hr ?_;(case hd=>rfl);(case hg=>rfl);(case hr=>first|(go_simp;done)|(go_simp;rfl));intro gb154 hg w5 hbox hb;have n0_:=Qz.k (aaz au_ hb);have n1_:=Qz.k (ajq.box (w0:=w) hbox (by rw [hg];exact(afq au_)));have n2_:=Qz.k ((by rw [hg];exact(afq au_):w.heap.size≤gb154));have n3_:=Qz.k ((by rw [hg];exact(afq au_):w.heap.size≤gb154));clear HB;have HB:=n0_;have HI154:=n1_;have GW154:=n2_;have GE154:=n3_;clear n0_ n1_ n2_ n3_;clear hb hbox hg))
  go_loopg [22] k (fun kq v22 w'=>∃ (x22_1:Int) (x155000_1:List Int),v22=.int .i64 x22_1∧Qz (forpack_Pack.l0 kq t152 t153 l0 (l0.length:Int) x22_1 x155000_1=some (r1,r2))∧Qz (kq≤k)∧Qz (ajq w w' gb154 x155000_1)∧Qz (Below w.heap.size w w'))
  case atStart=>exact⟨(0),(([]:List Int)),(by first|rfl|(simp;done)|(simp [*];done)),H',⟨Nat.le_refl _⟩,⟨by repeat(first|(with_reducible first|exact HI154.out|apply ajq.alloc|apply ajq.drewN|apply ajq.drew|apply ajq.set_0)|exact HI154.out)⟩,⟨by repeat(first|(with_reducible first|exact HB.out|apply aaq|apply adz|apply aez|refine adq ?_ (ajq.ge HI154.out))|exact HB.out)⟩⟩
  case round=>
   clear H'
   try clear c1
   try clear c2
   try clear c2b0
   try clear c2b1
   try clear p2
   obtain⟨x22_1,x155000_1,rfl,HA,HK1,HI154,HB⟩:=hrel
   cases gk with
   |zero=>exact absurd HA.out (by simp [forpack_Pack.l0])
   |succ k1=>
    have H:=HA.out
    clear HA
    simp only [forpack_Pack.l0]at H
    by_cases c6:x22_1<(l0.length:Int)
    ·rw [if_pos c6]at H
     have c6b0:decide (x22_1<(l0.length:Int))=true:=decide_eq_true c6
     clear c6
     by_cases c7:0≤x22_1
     ·rw [if_pos c7]at H
      have c7b0:decide (0≤x22_1)=true:=decide_eq_true c7
      clear c7
      by_cases c8:x22_1<(l0.length:Int)
      ·rw [if_pos c8]at H
       have c8b0:decide (x22_1<(l0.length:Int))=true:=decide_eq_true c8
       clear c8
       replace H:=Option.bind_eq_some_iff.mp H
       obtain⟨⟨t156,t157⟩,A90,H⟩:=H
       replace H:(forpack_Pack.l0 k1 t152 t153 l0 (l0.length:Int) (wrap64 (x22_1+1)) t157)=some (r1,r2):=H
       have A9:=Qz.k A90
       clear A90
       have H':=Qz.k H
       clear H
       have p155:0≤(x22_1:Int):=of_decide_eq_true (by first|(with_reducible assumption)|assumption)
       have q155:x22_1<(l0.length:Int):=of_decide_eq_true (by first|(with_reducible assumption)|assumption)
       obtain⟨ad155,e155,hx155_0⟩:=Kd.asz HR0.out x22_1 p155 q155
       cases e155
       replace hx155_0:=(HB.out.cell (World.block_lt_of_cell? w _ hx155_0)).trans hx155_0
       replace p155:=eq_true p155
       replace q155:=eq_true q155
       go_wp2_with (first|((with_reducible refine aiz (f:=236) rfl ?_);refine asq (some 31) rfl rfl Tryz.func236 (by kernel_rfl) rfl #[.pointer (some ⟨gb154,0,none⟩),.int .u64 (IntKind.u64.wrap ((rd l0 x22_1)-t152)),.int .i64 t153] rfl (by(try simp only [List.map_toArray,List.map_cons,List.map_nil]);first|done|rfl|(simp only [List.length_drop,List.length_take];rfl)) ?_;(with_reducible refine(bits_Writer_Put.calls gb154 x155000_1 (IntKind.u64.wrap ((rd l0 x22_1)-t152)) t153 t156 t157 w _ ?side1 ?side2 A9.out).mono ?_);(case side1=>repeat(first|(with_reducible first|exact HI154.out|apply ajq.alloc|apply ajq.drewN|apply ajq.drew|apply ajq.set_0)|exact HI154.out));(case side2=>repeat(first|(with_reducible first|exact HB.out|apply aaq|apply adz|apply aez|refine adq ?_ (ajq.ge HI154.out))|exact HB.out));rintro e w10 ⟨rfl,hi,hb,hk⟩;refine⟨_,rfl,?_⟩;have n0_:=Qz.k (hb);have n1_:=Qz.k (hi);clear HB;clear HI154;have HB:=n0_;have HI154:=n1_;clear n0_ n1_;(try clear hb);(try clear hb2);(try clear hk);(try clear hi)))
       go_roundg k1
       case measure=>have:=HK1.out;omega
       case rel=>exact⟨(wrap64 (x22_1+1)),(t157),(by first|rfl|(simp;done)|(simp [*];done)),H',⟨by have:=HK1.out;omega⟩,⟨by repeat(first|(with_reducible first|exact HI154.out|apply ajq.alloc|apply ajq.drewN|apply ajq.drew|apply ajq.set_0)|exact HI154.out)⟩,⟨by repeat(first|(with_reducible first|exact HB.out|apply aaq|apply adz|apply aez|refine adq ?_ (ajq.ge HI154.out))|exact HB.out)⟩⟩
      ·rw [if_neg c8]at H
       exact absurd H (by simp)
     ·rw [if_neg c7]at H
      exact absurd H (by simp)
    ·rw [if_neg c6]at H
     have c6b0:decide (x22_1<(l0.length:Int))=false:=decide_eq_false c6
     clear c6
     replace H:=Option.bind_eq_some_iff.mp H
     obtain⟨t158,A110,H⟩:=H
     replace H:(if t158.length<140737488355328 then((some (t158 ++ [(t153)%256]:List Int)).bind fun y161=>((bits_Writer_Bytes.f x155000_1).bind fun bt164=>(if y161.length+bt164.1.length<140737488355328 then(some ((y161++bt164.1),0))else(none))))else(none))=some (r1,r2):=H
     have A11:=Qz.k A110
     clear A110
     by_cases c12:t158.length<140737488355328
     ·rw [if_pos c12]at H
      have LMc12:=Qz.k c12
      clear c12
      obtain⟨y161,hy161⟩:∃ y_:List Int,y_=(t158 ++ [(t153)%256]):=⟨_,rfl⟩
      replace H:((bits_Writer_Bytes.f x155000_1).bind fun bt164=>(if y161.length+bt164.1.length<140737488355328 then(some ((y161++bt164.1),0))else(none)))=some (r1,r2):=by first|(rw [hy161];with_reducible exact H)|(have H2_:=(Option.bind_some _ _).symm.trans H;rw [hy161];with_reducible exact H2_)|(have H2_:=(Option.bind_some _ _).symm.trans H;with_reducible exact H2_)|with_reducible exact H|(rw [hy161];exact H)|exact H
      have Ny161:=Qz.k hy161
      clear hy161
      replace H:=Option.bind_eq_some_iff.mp H
      obtain⟨⟨t164,t167⟩,A130,H⟩:=H
      replace H:(if y161.length+t164.length<140737488355328 then(some ((y161++t164),0))else(none))=some (r1,r2):=H
      have A13:=Qz.k A130
      clear A130
      by_cases c14:y161.length+t164.length<140737488355328
      ·rw [if_pos c14]at H
       have LMc14:=Qz.k c14
       clear c14
       obtain⟨y168,hy168⟩:∃ y_:List Int,y_=(y161++t164):=⟨_,rfl⟩
       replace H:(some (y168,0))=some (r1,r2):=by first|(rw [hy168];with_reducible exact H)|(have H2_:=(Option.bind_some _ _).symm.trans H;rw [hy168];with_reducible exact H2_)|(have H2_:=(Option.bind_some _ _).symm.trans H;with_reducible exact H2_)|with_reducible exact H|(rw [hy168];exact H)|exact H
       have Ny168:=Qz.k hy168
       clear hy168
       simp only [Option.some.injEq,Prod.mk.injEq]at H
       obtain⟨rfl,rfl⟩:=H
       go_wp2_with (first|((with_reducible refine aiz (f:=43) rfl ?_);refine asq (some 34) rfl rfl Tryz.func43 (by kernel_rfl) rfl #[.slice none 0 0,.int .u64 t152] rfl (by(try simp only [List.map_toArray,List.map_cons,List.map_nil]);first|done|rfl|(simp only [List.length_drop,List.length_take];rfl)) ?_;(refine(varint_Append.calls k1 _ _ ([]:List Int) t152 t158 _ ?side1 ?side2 A11.out).mono ?_);(case side1=>exact Kd.a7q _ _);(case side2=>exact Nat.le_refl _);rintro e w15 ⟨v159,rfl,ho0,hb⟩;refine⟨_,rfl,?_⟩;have HAW:=Qz.k (ajq.away_new (by repeat(first|(with_reducible first|exact HI154.out|apply ajq.alloc|apply ajq.drewN|apply ajq.drew|apply ajq.set_0)|exact HI154.out)) hb ho0);have n0_:=Qz.k (Kd.aiq ho0 (afq (by repeat(first|(with_reducible first|exact HB.out|apply aaq|apply adz|apply aez|refine adq ?_ (ajq.ge HI154.out))|exact HB.out))));have n1_:=Qz.k (ajq.below (by repeat(first|(with_reducible first|exact HI154.out|apply ajq.alloc|apply ajq.drewN|apply ajq.drew|apply ajq.set_0)|exact HI154.out)) hb);have n2_:=Qz.k (aaz (by repeat(first|(with_reducible first|exact HB.out|apply aaq|apply adz|apply aez|refine adq ?_ (ajq.ge HI154.out))|exact HB.out)) hb);clear HI154;clear HB;have HO160:=n0_;have HI154:=n1_;have HB:=n2_;clear n0_ n1_ n2_;(try clear hb);(try clear hb2);(try clear hk);(try clear hi);(try clear ho0))|((with_reducible refine agk (b := .append) (xs:=#[.tmp 34,.tmp 37]) rfl ?_);at_builtin;refine Kd.aVq (Kd.int .u8) (w0:=w) w.heap.size rfl (.tmp 34) (.tmp 37) 27 5 (.int .u8 0) 1 rfl Tryz.underlying27 info5 rfl (by decide) (by omega) v159 t158 ((t153)%256) [.int .u8 ((t153)%256)] (fun _=>True) (fun _=>False) rfl rfl ?aP (fun _ hk=>hk.elim) ?aF ?aO ?aB ?aS ?aL ?_;(case aP=>exact rfl);(case aB=>exact(by repeat(first|(with_reducible first|exact HB.out|apply aaq|apply adz|apply aez|refine adq ?_ (ajq.ge HI154.out))|exact HB.out)));(case aF=>exact(fun _ _=>trivial));(case aO=>exact(al_ HO160.out));(case aS=>exact(afq (by repeat(first|(with_reducible first|exact HB.out|apply aaq|apply adz|apply aez|refine adq ?_ (ajq.ge HI154.out))|exact HB.out))));(case aL=>have:=LMc12.out;omega);intro v162 w16 ho hb hg hat;rw [←Ny161.out]at ho;have n0_:=Qz.k (ajq.grown (by repeat(first|(with_reducible first|exact HI154.out|apply ajq.alloc|apply ajq.drewN|apply ajq.drew|apply ajq.set_0)|exact HI154.out)) hg HAW.out);have n1_:=Qz.k (hb);have n2_:=Qz.k (ho);clear HI154;clear HB;clear HO160;have HI154:=n0_;have HB:=n1_;have HO163:=n2_;clear n0_ n1_ n2_;clear ho hb hg hat)|((with_reducible refine aiz (f:=237) rfl ?_);refine asq (some 41) rfl rfl Tryz.func237 (by kernel_rfl) rfl #[.pointer (some ⟨gb154,0,none⟩)] rfl (by(try simp only [List.map_toArray,List.map_cons,List.map_nil]);first|done|rfl|(simp only [List.length_drop,List.length_take];rfl)) ?_;(with_reducible refine(bits_Writer_Bytes.calls gb154 x155000_1 t164 t167 w _ ?side1 ?side2 A13.out).mono ?_);(case side1=>repeat(first|(with_reducible first|exact HI154.out|apply ajq.alloc|apply ajq.drewN|apply ajq.drew|apply ajq.set_0)|exact HI154.out));(case side2=>repeat(first|(with_reducible first|exact HB.out|apply aaq|apply adz|apply aez|refine adq ?_ (ajq.ge HI154.out))|exact HB.out));rintro e w17 ⟨v165,rfl,ho0,hi,hb,hk⟩;refine⟨_,rfl,?_⟩;have n0_:=Qz.k (Kd.R_mono (Kd.R_told (Kd.R_oldK (ajq.apart (show ajq w _ gb154 x155000_1 from by repeat(first|(with_reducible first|exact HI154.out|apply ajq.alloc|apply ajq.drewN|apply ajq.drew|apply ajq.set_0)|exact HI154.out)) (al_ HO163.out) (by decide)) hk) (Kd.aRz ho0)) (fun _ h_=>h_.1));have n1_:=Qz.k (Kd.aiq (Kd.aYq ho0 (Kd.R_lt (al_ HO163.out))) (afq (by repeat(first|(with_reducible first|exact HB.out|apply aaq|apply adz|apply aez|refine adq ?_ (ajq.ge HI154.out))|exact HB.out))));have n2_:=Qz.k (hb);have n3_:=Qz.k (hi);clear HO163;clear HB;clear HI154;have HO163:=n0_;have HO166:=n1_;have HB:=n2_;have HI154:=n3_;clear n0_ n1_ n2_ n3_;(try clear hb);(try clear hb2);(try clear hk);(try clear hi);(try clear ho0);obtain⟨Ao19,co19,eo19⟩:=Kd.afz HO166.out;subst eo19)|((with_reducible refine agk (b := .append) (xs:=#[.tmp 39,.tmp 41]) rfl ?_);at_builtin;refine Kd.ahq (Kd.int .u8) (w0:=w) w.heap.size rfl (.tmp 39) (.tmp 41) 27 5 (.int .u8 0) 1 rfl Tryz.underlying27 info5 rfl (by decide) (by omega) v162 y161 t164 _ _ _ (fun k_=>some k_≠(.slice Ao19 t164.length co19:Value).ownBlock) (fun _=>False) rfl rfl ?aO ?aR (fun _ _ h=>h) (fun _ h=>h.elim) ?aF ?aB ?aS ?aL ?_;(case aR=>repeat(first|exact(Kd.ack HO166.out).2.2|(with_reducible refine Kd.aqk ?_ _)|(with_reducible refine Kd.aqz ?_ _)|(with_reducible refine Kd.atq ?_)));(case aB=>exact(by repeat(first|(with_reducible first|exact HB.out|apply aaq|apply adz|apply aez|refine adq ?_ (ajq.ge HI154.out))|exact HB.out)));(case aF=>exact(fun k_ hk=>Kd.fresh' (Kd.R_lt (al_ HO166.out)) k_ hk));(case aO=>exact(by(with_reducible repeat(first|apply Kd.akq|apply Kd.akk|apply Kd.amz));exact Kd.R_mono HO163.out (fun _ hk=>hk.2)));(case aS=>exact(afq (by repeat(first|(with_reducible first|exact HB.out|apply aaq|apply adz|apply aez|refine adq ?_ (ajq.ge HI154.out))|exact HB.out))));(case aL=>have:=LMc14.out;omega);intro v169 w18 ho hb hg hat;rw [←Ny168.out]at ho;have n0_:=Qz.k True.intro;have n1_:=Qz.k (Kd.boz (ok:=(fun _=>True)) (al_ HO166.out) hg hat);have n2_:=Qz.k (hb);have n3_:=Qz.k (ho);clear HI154;clear HO166;clear HB;clear HO163;have HI154:=n0_;have HO166:=n1_;have HB:=n2_;have HO170:=n3_;clear n0_ n1_ n2_ n3_;clear ho hb hg hat))
       go_ret2
       exact⟨_,by first|rfl|(simp [aek,aeq] <;> rfl)|(simp [*,aek,aeq] <;> rfl),by(with_reducible repeat(first|apply Kd.akq|apply Kd.akk|apply Kd.amz));exact Kd.R_mono HO170.out (fun _ hk=>trivial),by repeat(first|(with_reducible first|exact HB.out|apply aaq|apply adz|apply aez|refine adq ?_ (ajq.ge HI154.out))|exact HB.out)⟩
      ·rw [if_neg c14]at H
       exact absurd H (by simp)
     ·rw [if_neg c12]at H
      exact absurd H (by simp)
end Go.Proofs.YthggdomocichdaaGreatDoor.P
