/- Put together: Kit, Tz, Tab. -/
import Derived.Test.YthggdomocichdaaGreatDoorZ3
import Derived.Shelf.Spec.TrailingZeros
import Derived.Test.YthggdomocichdaaGreatDoorRows
import Derived.ProofKit
import Derived.OpenShut
import Derived.LaidMore
import Derived.Lay
set_option linter.unusedVariables false
set_option linter.unusedSimpArgs false
namespace Go.Proofs.YthggdomocichdaaGreatDoor.Kit
open Go.RowKit Go.Proofs.YthggdomocichdaaGreatDoorW.PrintWords Go.Proofs.YthggdomocichdaaGreatDoorW.PrintLast Go.Proofs.YthggdomocichdaaGreatDoorW.PrintMore
def Evn {α : Type}(g:Nat→Option α)(r : α):Prop := ∃ n,∀ k,n≤k→g k=some r
section
variable {α β : Type}
theorem Evn.pure (r : α):Evn (fun _=>some r) r:=⟨0,fun _ _=>rfl⟩
theorem Evn.const {x:Option α}{r : α}(h:x=some r):Evn (fun _=>x) r:=⟨0,fun _ _=>h⟩
theorem Evn.get {g:Nat→Option α}{r : α}(h:Evn g r):∃ k,g k=some r:=by
 obtain⟨n,h⟩:=h
 exact⟨n,h n (Nat.le_refl _)⟩
theorem Evn.bind {g:Nat→Option α}{h:Nat→α → Option β}{a : α}{r : β}(hg:Evn g a)(hh:Evn (fun k=>h k a) r):Evn (fun k=>(g k).bind (h k)) r:=by
 obtain⟨n,hg⟩:=hg
 obtain⟨m,hh⟩:=hh
 refine⟨max n m,fun k hk=>?_⟩
 show(g k).bind (h k)=some r
 rw [hg k (by omega),Option.bind_some]
 exact hh k (by omega)
theorem Evn.bik {x:Option α}{h:Nat→α → Option β}{a : α}{r : β}(hg:x=some a)(hh:Evn (fun k=>h k a) r):Evn (fun k=>x.bind (h k)) r:=by
 subst hg
 exact hh
theorem Evn.succ {F G:Nat→Option α}{r : α}(h:Evn G r)(e:∀ k,F (k+1)=G k):Evn F r:=by
 obtain⟨n,h⟩:=h
 refine⟨n+1,fun k hk=>?_⟩
 obtain⟨m,rfl⟩:∃ m,k=m+1:=⟨k-1,by omega⟩
 rw [e]
 exact h m (by omega)
theorem Evn.round {F:Nat→Option α}{r : α}(h:Evn (fun k=>F (k+1)) r):Evn F r:=Evn.succ h fun _=>rfl
theorem Evn.of {g:Nat→Option α}(hg:∀ k,LeO (g k) (g (k+1)))(n:Nat){r : α}(h:g n=some r):Evn g r:=⟨n,fun _ hk=>at_rounds hg hk h⟩
theorem Evn.eq {g:Nat→Option α}{r r' : α}(h:Evn g r)(e:r=r'):Evn g r':=e ▸ h
theorem Evn.pos {c:Prop}[Decidable c]{f g:Nat→Option α}{r : α}(hc:c)(h:Evn f r):Evn (fun k=>if c then f k else g k) r:=by
 simp only [if_pos hc]
 exact h
theorem Evn.neg {c:Prop}[Decidable c]{f g:Nat→Option α}{r : α}(hc:¬ c)(h:Evn g r):Evn (fun k=>if c then f k else g k) r:=by
 simp only [if_neg hc]
 exact h
end
theorem agq {n:Int}(h0 : -9223372036854775808≤n)(h1:n≤9223372036854775807):wrap64 n=n:=by
 unfold wrap64
 omega
theorem aMq (n:Int):IntKind.u64.wrap n=n%18446744073709551616:=by
 simp [IntKind.wrap,IntKind.signed,IntKind.bits]
theorem aUk (l:List Int)(i:Nat):rd l (i:Int)=l.getD i 0:=by simp [rd]
theorem rd_mid (p:List Int)(a:Int)(t:List Int)(i:Int)(h:i=(p.length:Int)):rd (p++a :: t) i=a:=by
 subst h
 simp [rd]
theorem set_mid (p:List Int)(a v:Int)(t:List Int)(i:Nat)(h:i=p.length):(p++a :: t).set i v=p++v :: t:=by
 subst h
 simp
theorem aZz (l:List Int)(i:Int)(h0:0≤i)(h:i<(l.length:Int)):rd l i∈l:=by
 have h1:i.toNat<l.length:=by omega
 simp [rd,List.getD_eq_getElem?_getD,List.getElem?_eq_getElem h1]
theorem rd_take (l:List Int)(n:Nat)(i:Int)(h0:0≤i)(h:i<(n:Int)):rd (l.take n) i=rd l i:=by
 have h1:i.toNat<n:=by omega
 simp [rd,List.getD_eq_getElem?_getD,List.getElem?_take,h1]
theorem rd_drop (l:List Int)(n:Nat)(i:Int)(h0:0≤i):rd (l.drop n) i=rd l (i+n):=by
 have h1:(i+(n:Int)).toNat=n+i.toNat:=by omega
 simp [rd,List.getD_eq_getElem?_getD,List.getElem?_drop,h1]
theorem ext_rd {a b:List Int}(hl:a.length=b.length)(h:∀ i:Nat,i<a.length→rd a (i:Int)=rd b (i:Int)):a=b:=by
 refine List.ext_getElem hl fun i h1 h2=>?_
 have:=h i h1
 simpa [rd,List.getD_eq_getElem?_getD,List.getElem?_eq_getElem h1,List.getElem?_eq_getElem h2]using this
theorem and_mask (c : Int) (i : Nat) (hi : i ≤ 62) : Go.bits .and .i64 c (2 ^ i - 1) = c % 2 ^ i := by
  have hp : (2 : Int) ^ i - 1 = ((2 ^ i - 1 : Nat) : Int) := by
    rw [Int.natCast_sub (Nat.two_pow_pos i)]
    simp
  have hle : 2 ^ i ≤ 2 ^ 62 := Nat.pow_le_pow_right (by decide) hi
  have hlt : 2 ^ i - 1 < 2 ^ 64 := by omega
  have hd : ((2 ^ i : Nat) : Int) ∣ ((2 ^ 64 : Nat) : Int) := Int.natCast_dvd_natCast.2 (Nat.pow_dvd_pow 2 (by omega))
  have h64 : (BitVec.ofInt 64 c).toNat = (c % 2 ^ 64).toNat := by
    rw [BitVec.toNat_ofInt, show ((2 ^ 64 : Nat) : Int) = 2 ^ 64 by decide]
  have hm : ((c % 2 ^ 64).toNat % 2 ^ i : Nat) = (c % 2 ^ i).toNat := by
    have e : (((c % 2 ^ 64).toNat % 2 ^ i : Nat) : Int) = c % 2 ^ i := by
      rw [Int.natCast_emod, Int.toNat_of_nonneg (Int.emod_nonneg _ (by decide)), Int.emod_emod_of_dvd _ (by simpa using hd)]
      simp
    omega
  rw [hp, show Go.bits .and .i64 c ((2 ^ i - 1 : Nat) : Int) = IntKind.i64.wrap ((BitVec.ofInt 64 c &&& BitVec.ofInt 64 ((2 ^ i - 1 : Nat) : Int)).toNat : Int) from rfl, BitVec.toNat_and, BitVec.ofInt_natCast, BitVec.toNat_ofNat, h64, Nat.mod_eq_of_lt hlt, Nat.and_two_pow_sub_one_eq_mod, hm]
  have h0 : 0 ≤ c % 2 ^ i := Int.emod_nonneg _ (by have := Nat.two_pow_pos i; have : (0 : Int) < 2 ^ i := by exact_mod_cast this
                                                   omega)
  have h1 : c % 2 ^ i < 2 ^ i := Int.emod_lt_of_pos _ (by exact_mod_cast Nat.two_pow_pos i)
  have h2 : (2 : Int) ^ i ≤ 2 ^ 62 := by exact_mod_cast hle
  rw [Int.toNat_of_nonneg h0, IntKind.wrap_i64]
  omega
end Go.Proofs.YthggdomocichdaaGreatDoor.Kit
namespace Go.Proofs
open Go.Shelf
def Tryz.lays29_ren : Go.Shelf.Ren:=⟨fun | 29=>155|n=>n,fun | 0=>0 | 3=>3 | 4=>4 | 5=>5 | 22=>22 | 25=>26 | 54=>178|n=>n,fun | 1=>1|n=>n⟩
theorem Tryz.lays29 : Go.Proofs.Lays7.n29 Tryz.prog Tryz.lays29_ren:={
 mixed:=by kernel_rfl
 f29:=Tryz.func155.trans (congrArg some (by kernel_rfl))
 t0:=Tryz.underlying0
 a0:=Tryz.isAgg0
 z0:=Tryz.sizeOf0
 v0:=Tryz.zeroValue0
 i0:=by kernel_rfl
 t3:=Tryz.underlying3
 a3:=Tryz.isAgg3
 z3:=Tryz.sizeOf3
 v3:=Tryz.zeroValue3
 i3:=by kernel_rfl
 t4:=Tryz.underlying4
 a4:=Tryz.isAgg4
 z4:=Tryz.sizeOf4
 v4:=Tryz.zeroValue4
 i4:=by kernel_rfl
 t5:=Tryz.underlying5
 a5:=Tryz.isAgg5
 z5:=Tryz.sizeOf5
 v5:=Tryz.zeroValue5
 i5:=by kernel_rfl
 t22:=Tryz.underlying22
 a22:=Tryz.isAgg22
 z22:=Tryz.sizeOf22
 v22:=Tryz.zeroValue22
 i22:=by kernel_rfl
 t25:=Tryz.underlying26
 a25:=Tryz.isAgg26
 z25:=Tryz.sizeOf26
 v25:=Tryz.zeroValue26
 i25:=by kernel_rfl
 t54:=Tryz.underlying178
 a54:=Tryz.isAgg178
 z54:=Tryz.sizeOf178
 g1:=by kernel_rfl }
end Go.Proofs
namespace Go.Proofs.YthggdomocichdaaGreatDoor.P
open Go.RowKit Go.Proofs.YthggdomocichdaaGreatDoorW.PrintWords Go.Proofs.YthggdomocichdaaGreatDoorW.PrintLast Go.Proofs.YthggdomocichdaaGreatDoorW.PrintMore
def Tab (w:World):Prop:=TabAt 1 Lib.deBruijn64tab w
theorem Tab.pos {w:World}(h:Tab w):1<w.heap.size:=by
 have h0:=h 0 (by decide)
 unfold World.cell? at h0
 cases hb:w.heap[1]? with
 |none=>rw [hb]at h0;cases h0
 |some b=>exact(Array.getElem?_eq_some_iff.1 hb).1
theorem Tab.below {w0 w:World}(h:Tab w0)(hb:Below w0.heap.size w0 w):Tab w:=fun j hj=>by
 rw [←h j hj]
 unfold World.cell?
 rw [show(⟨1,j,none⟩:Addr).block=1 from rfl,hb.block _ h.pos]
theorem Tab.drawn {w0 w:World}(h:Tab w0)(hb:Drawn0 w0 w):Tab w:=by
 obtain⟨n,rfl⟩:=hb.out
 exact h.below (adz (Below.refl _ _) n)
theorem aPk (x:Nat)(hx:x<18446744073709551616)(w:World)(hT:Tab w):Calls Tryz.prog 155 #[.int .u64 x] w fun e w'=>e=.returned (.int .i64 (Lib.ctz 64 x))∧w'=w:=
 Any7.bits_TrailingZeros64 Tryz.lays29 x hx w fun _=>hT
end Go.Proofs.YthggdomocichdaaGreatDoor.P
namespace Go.Proofs.YthggdomocichdaaGreatDoor.P
open Go.ChangeShapes Go.WideShapes Go.ChangeAt Go.RowKit
theorem tab_of {W:World}(h:laidMetH Tryz.prog [("math/bits.deBruijn32tab",Rows.laid_math_bits_deBruijn32tab),("math/bits.deBruijn64tab",Rows.laid_math_bits_deBruijn64tab)] W):Tab W:=by
 rw [MakeChecks.laidMetH_plain _ _ _ (by kernel_rfl)]at h
 intro r hr
 obtain⟨ps,⟨g1,t1,cs1,fuel1,p1,q1,hg1,ht1,hv1,hd1,⟨g,t,cs,fuel,p,q,hg,ht,hv,hd,_,_⟩,_⟩,_,_⟩:=h
 obtain rfl:=Option.some.inj ((show Tryz.prog.globalNamed "math/bits.deBruijn64tab" = some 1 by kernel_rfl).symm.trans hg)
 obtain rfl:=Option.some.inj ((show(Tryz.prog.globals[1]?).map (·.type)=some 178 by kernel_rfl).symm.trans ht)
 obtain⟨xs,m,_,ex,_,hl,hel⟩:=DataW.trod_array Tryz.underlying178 hd
 have hlen:Lib.deBruijn64tab.length=64:=by kernel_rfl
 have c5:Tryz.prog.cellsOf 5=1:=by kernel_rfl
 have hE:=hel r (by omega)
 rw [c5,Nat.mul_one,List.getElem?_eq_getElem (by omega)]at hE
 obtain⟨z,e1,e2,_⟩:=DataW.trod_int Tryz.underlying5 hE
 have e3:(xs.map (·.1))=Lib.deBruijn64tab.map fun(n:Nat)=>.lit (.int .u8 (n:Int)):=(DataW.agg.inj (Prod.mk.inj ex).1).symm
 have e4:(xs.map (·.1))[r]? =(Lib.deBruijn64tab.map fun(n:Nat)=>(DataW.lit (.int .u8 (n:Int)):DataW Unit))[r]? := by rw [e3]
 rw [List.getElem?_map,List.getElem?_map,List.getElem?_eq_getElem (by omega:r<xs.length),List.getElem?_eq_getElem (by omega:r<Lib.deBruijn64tab.length),e2]at e4
 have hz:z=((Lib.deBruijn64tab.getD r 0:Nat):Int):=by
  simp only [Option.map_some,Option.some.injEq,DataW.lit.injEq,Lit.int.injEq,true_and]at e4
  rw [e4,List.getD,List.getElem?_eq_getElem (by omega:r<Lib.deBruijn64tab.length)];rfl
 rw [World.var?_cell hg hv r,←hz]
 have:cs.toList[r]? = some (.int .u8 z):=by
  have h0:((cs.toList.drop r).take 1)[0]? = some (.int .u8 z):=by rw [e1];rfl
  simpa using h0
 simpa using this
end Go.Proofs.YthggdomocichdaaGreatDoor.P
