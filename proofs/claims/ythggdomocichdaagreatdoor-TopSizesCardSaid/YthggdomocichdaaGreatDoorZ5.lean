/- Put together: WTab, WInv, WInvWords, Px0, Px1, AppZ, AppF. -/
import Derived.Lib.SliceRun
import Derived.Test.YthggdomocichdaaGreatDoorZ6
import Derived.Test.YthggdomocichdaaGreatDoorZ7
import Derived.Test.YthggdomocichdaaGreatDoorZ8
import Derived.Lib.AppendZerosOnto
import Derived.Lib.SmallJoins
import Derived.Test.YthggdomocichdaaGreatDoorZ13
set_option maxRecDepth 100000
set_option linter.unusedVariables false
set_option linter.unusedSimpArgs false
namespace Go.Proofs.YthggdomocichdaaGreatDoorW.PrintLast
open Go.Proofs.YthggdomocichdaaGreatDoorW.PrintWords (Qz)
def byz (md:Region.Mode)(o:Oper):List Nat:=(o.after.toList.filter (fun e=>Region.binds md e)).map (fun e=>e.on)
def clashOf (md:Region.Mode)(ops:Array Oper)(i:Nat)(oi:Oper):List Nat:=(List.range ops.size).filter fun j => !(j == i) && match ops[j]? with
 |some oj => !(oj.after.any (fun e=>Region.binds md e && e.on == i) || oi.apart ops oj)
 |none=>false
def rtab (md:Region.Mode)(ops:Array Oper):Bool×List (List Nat×List Nat):=(Region.noSelect ops,(List.range ops.size).map fun i=>match ops[i]? with
 |some o=>(byz md o,clashOf md ops i o)
 |none=>([],[]))
def a1q (T:List (List Nat×List Nat))(l:List Bool)(i:Nat):Bool := !l.getD i true && match T[i]? with
 |some r=>r.1.all (fun j=>l.getD j false)
 |none=>false
def bJk (T:List (List Nat×List Nat))(l:List Bool):List Nat:=(List.range T.length).filter (a1q T l)
def freeT (T:List (List Nat×List Nat))(l:List Bool)(i:Nat):Bool:=match T[i]? with
 |some r=>r.2.all (fun j=>l.getD j true)
 |none=>false
def closedT (T:List (List Nat×List Nat))(l:List Bool):Bool:=(List.range T.length).all fun j => !l.getD j false || match T[j]? with
 |some r=>r.1.all (fun k=>l.getD k false)
 |none=>true
def bYz (T:List (List Nat×List Nat))(i:Nat):Nat→Nat→Bool
 | 0,_=>false
 |fuel+1,d=>match T[d]? with
  |some r=>r.1.any fun j=>j == i || bYz T i fuel j
  |none=>false
def lastT (T:List (List Nat×List Nat))(l:List Bool)(ds:List Nat)(i:Nat):Bool:=ds.all fun d=>l.getD d true || bYz T i T.length d
section
variable {md:Region.Mode}{ops:Array Oper}{T:Bool×List (List Nat×List Nat)}{l l' li lj lk:Array Bool}{ds:List Nat}{i j k:Nat}
theorem gd (l:Array Bool)(j:Nat)(b:Bool):l.getD j b=l.toList.getD j b:=by simp [Array.getD_eq_getD_getElem?,List.getD_eq_getElem?_getD]
theorem needs_all (o:Oper)(p:Nat→Bool):o.after.all (fun e => !Region.binds md e || p e.on)=(byz md o).all p:=by
 unfold byz
 rw [←Array.all_toList]
 induction o.after.toList with
 |nil=>rfl
 |cons e r ih=>
  rw [List.all_cons,ih,List.filter_cons]
  cases h:Region.binds md e <;> simp
theorem needs_any (o:Oper)(p:Nat→Bool):o.after.any (fun e=>Region.binds md e && p e.on)=(byz md o).any p:=by
 unfold byz
 rw [←Array.any_toList]
 induction o.after.toList with
 |nil=>rfl
 |cons e r ih=>
  rw [List.any_cons,ih,List.filter_cons]
  cases h:Region.binds md e <;> simp
theorem a4k : (rtab md ops).2.length=ops.size:=by simp [rtab]
theorem bqk {o:Oper}(h:ops[i]? = some o):(rtab md ops).2[i]? = some (byz md o,clashOf md ops i o):=by
 have hi:=(Array.getElem?_eq_some_iff.1 h).1
 unfold rtab
 rw [List.getElem?_map,List.getElem?_range hi,Option.map_some,h]
theorem brz (h:ops[i]? = none):(rtab md ops).2[i]? = none:=by
 have hi:ops.size≤i:=Array.getElem?_eq_none_iff.1 h
 exact List.getElem?_eq_none (by rw [a4k];exact hi)
theorem readyAt_eq : a1q (rtab md ops).2 l.toList i=(!l.getD i true && ((ops[i]?).map (·.after.all fun e => !Region.binds md e || l.getD e.on false)).getD false):=by
 unfold a1q
 rw [gd]
 cases h:ops[i]? with
 |none=>rw [brz h];rfl
 |some o=>
  rw [bqk h]
  simp only [Option.map_some,Option.getD_some]
  rw [←needs_all]
  simp only [gd]
theorem ready_eq : Region.ready md ops l=bJk (rtab md ops).2 l.toList:=by
 unfold Region.ready bJk
 rw [a4k]
 refine List.filter_congr (fun i _=>?_)
 rw [readyAt_eq]
theorem free_eq : Region.free md ops l i=freeT (rtab md ops).2 l.toList i:=by
 unfold Region.free freeT
 cases h:ops[i]? with
 |none=>rw [brz h]
 |some oi=>
  rw [bqk h]
  simp only [clashOf]
  rw [List.all_filter]
  congr 1
  funext j
  rw [gd]
  cases hj:ops[j]? with
  |none=>cases (j == i) <;> cases (l.toList.getD j true) <;> simp
  |some oj=>
   cases (j == i) <;> cases (l.toList.getD j true) <;> cases (oj.after.any (fun e=>Region.binds md e && e.on == i) || oi.apart ops oj) <;> simp_all
theorem closed_eq : Region.bPk md ops l=closedT (rtab md ops).2 l.toList:=by
 unfold Region.bPk closedT
 rw [a4k]
 congr 1
 funext j
 rw [gd]
 cases h:ops[j]? with
 |none=>rw [brz h]
 |some o=>
  rw [bqk h]
  simp only
  rw [←needs_all]
  simp only [gd]
theorem reach_eq : ∀ (fuel d:Nat),Region.a7k md ops i fuel d=bYz (rtab md ops).2 i fuel d
 | 0,_=>rfl
 |fuel+1,d=>by
  unfold Region.a7k bYz
  cases h:ops[d]? with
  |none=>rw [brz h]
  |some o=>
   rw [bqk h]
   simp only
   rw [←needs_any]
   congr 1
   funext e
   rw [reach_eq fuel]
theorem last_eq : Region.lastB md ops l ds i=lastT (rtab md ops).2 l.toList ds i:=by
 unfold Region.lastB lastT
 rw [a4k]
 congr 1
 funext d
 rw [gd,reach_eq]
theorem bKz (h:a1q T.2 l.toList i=true)(hT:rtab md ops=T):(Region.ready md ops l).contains i=true:=by
 subst hT
 rw [ready_eq]
 unfold bJk
 rw [List.contains_iff_mem,List.mem_filter,List.mem_range]
 refine⟨?_,h⟩
 unfold a1q at h
 rw [Bool.and_eq_true]at h
 cases hq:(rtab md ops).2[i]? with
 |none=>rw [hq]at h;simp at h
 |some r=>exact(List.getElem?_eq_some_iff.1 hq).1
theorem set_of (h:(l.toList.set i true == l'.toList)=true):(l.setIfInBounds i true == l')=true:=by
 rw [beq_iff_eq]at h ⊢
 apply Array.ext'
 rw [Array.toList_setIfInBounds]
 exact h
def anyT (T:Bool×List (List Nat×List Nat))(l l':List Bool)(i:Nat):Bool:=T.1 && freeT T.2 l i && a1q T.2 l i && (l.set i true == l')
theorem amq (hT:rtab md ops=T)(h:anyT T l.toList l'.toList i=true):anyB md ops l l' i=true:=by
 simp only [anyT,Bool.and_eq_true]at h
 obtain⟨⟨⟨h1,h2⟩,h3⟩,h4⟩:=h
 have h5:=bKz h3 hT
 have h6:=set_of h4
 subst hT
 simp only [anyB,Bool.and_eq_true]
 exact⟨⟨⟨h1,by rw [free_eq];exact h2⟩,h5⟩,h6⟩
def takeT (T:Bool×List (List Nat×List Nat))(ds:List Nat)(l l':List Bool)(i:Nat):Bool:=T.1 && freeT T.2 l i && a1q T.2 l i && closedT T.2 l && lastT T.2 l ds i && (l.set i true == l')
theorem take_of (hT:rtab md ops=T)(h:takeT T ds l.toList l'.toList i=true):takeB md ops ds l l' i=true:=by
 simp only [takeT,Bool.and_eq_true]at h
 obtain⟨⟨⟨⟨⟨h1,h2⟩,h3⟩,h4⟩,h5⟩,h6⟩:=h
 have h7:=bKz h3 hT
 have h8:=set_of h6
 subst hT
 simp only [takeB,Bool.and_eq_true]
 exact⟨⟨⟨⟨⟨h1,by rw [free_eq];exact h2⟩,h7⟩,by rw [closed_eq];exact h4⟩,by rw [last_eq];exact h5⟩,h8⟩
theorem one_of (hT:rtab md ops=T)(h:(bJk T.2 l.toList == [i] && l.toList.set i true == l'.toList)=true):bXk md ops l l' i=true:=by
 simp only [Bool.and_eq_true]at h
 obtain⟨h1,h2⟩:=h
 subst hT
 simp only [bXk,Bool.and_eq_true]
 exact⟨by rw [ready_eq];exact h1,set_of h2⟩
theorem done_of (hT:rtab md ops=T)(h:(bJk T.2 l.toList == [])=true):(Region.ready md ops l == [])=true:=by
 subst hT
 rw [ready_eq]
 exact h
def upM (B:List Nat)(d:Nat):List Nat→Nat
 | []=>0
 |n :: r=>(2 ^ n |||(if n<d then B.getD n 0 else 0)) ||| upM B d r
def aLq (T:List (List Nat×List Nat))(B:List Nat):Bool:=(List.range T.length).all fun d=>match T[d]? with
 |some r=>(B.getD d 0 ||| upM B d r.1) == upM B d r.1
 |none=>false
theorem bkz {B:List Nat}{d i:Nat}:∀ {ns:List Nat},(upM B d ns).testBit i=true→∃ n∈ns,n=i∨(n<d∧(B.getD n 0).testBit i=true)
 | [],h=>by simp [upM]at h
 |n :: r,h=>by
  unfold upM at h
  rw [Nat.testBit_or,Nat.testBit_or,Bool.or_eq_true,Bool.or_eq_true]at h
  rcases h with(h|h)|h
  ·rw [Nat.testBit_two_pow]at h
   exact⟨n,List.mem_cons_self,.inl (by simpa using h)⟩
  ·by_cases hn:n<d
   ·rw [if_pos hn]at h
    exact⟨n,List.mem_cons_self,.inr ⟨hn,h⟩⟩
   ·rw [if_neg hn]at h
    simp at h
  ·obtain⟨m,hm,h2⟩:=bkz h
   exact⟨m,List.mem_cons_of_mem _ hm,h2⟩
theorem reach_bit {T:List (List Nat×List Nat)}{B:List Nat}(hB:aLq T B=true):∀ (fuel d:Nat),d<fuel→d<T.length→(B.getD d 0).testBit i=true→bYz T i fuel d=true
 | 0,d,h,_,_=>by omega
 |fuel+1,d,h,hd,hb=>by
  have h1:=List.all_eq_true.1 hB d (List.mem_range.2 hd)
  cases hr:T[d]? with
  |none=>rw [hr]at h1;simp at h1
  |some r=>
   rw [hr]at h1
   simp only [beq_iff_eq]at h1
   have h2:(upM B d r.1).testBit i=true:=by rw [←h1,Nat.testBit_or,hb,Bool.true_or]
   obtain⟨n,hn,h3⟩:=bkz h2
   unfold bYz
   rw [hr]
   simp only
   rw [List.any_eq_true]
   refine⟨n,hn,?_⟩
   rcases h3 with rfl|⟨h4,h5⟩
   ·simp
   ·rw [reach_bit hB fuel n (by omega) (by omega) h5,Bool.or_true]
def lastW (T:List (List Nat×List Nat))(B:List Nat)(l:List Bool)(ds:List Nat)(i:Nat):Bool:=ds.all fun d=>l.getD d true ||(decide (d<T.length) && (B.getD d 0).testBit i)
def takeW (T:Bool×List (List Nat×List Nat))(B:List Nat)(ds:List Nat)(l l':List Bool)(i:Nat):Bool:=T.1 && freeT T.2 l i && a1q T.2 l i && closedT T.2 l && lastW T.2 B l ds i && (l.set i true == l')
theorem bgz {B:List Nat}(hT:rtab md ops=T)(hB:aLq T.2 B=true)(h:takeW T B ds l.toList l'.toList i=true):takeB md ops ds l l' i=true:=by
 refine take_of hT ?_
 simp only [takeW,takeT,Bool.and_eq_true]at h ⊢
 obtain⟨⟨⟨⟨⟨h1,h2⟩,h3⟩,h4⟩,h5⟩,h6⟩:=h
 refine⟨⟨⟨⟨⟨h1,h2⟩,h3⟩,h4⟩,?_⟩,h6⟩
 unfold lastW at h5
 unfold lastT
 rw [List.all_eq_true]at h5 ⊢
 intro d hd
 have h7:=h5 d hd
 rw [Bool.or_eq_true,Bool.and_eq_true,decide_eq_true_eq]at h7
 rcases h7 with h7|⟨h8,h9⟩
 ·rw [h7,Bool.true_or]
 ·rw [reach_bit hB _ d h8 h8 h9,Bool.or_true]
theorem aNk {P:Program}{Q:Exit→Act→World→Prop}{S:World→Prop}{n:Nat}{a:Act}{w:World}{B:List Nat}(hT:rtab md ops=T)(hB:aLq T.2 B=true)(h:Qz (rtab md ops=T)→Qz (aLq T.2 B=true)→alz P md ops Q S ds n l a w):alz P md ops Q S ds n l a w:=h ⟨hT⟩ ⟨hB⟩
end
def bUk : Code→Nat→Option (Array Oper)
 | .region id ops _,k=>if id == k then some ops else none
 | .seq a b,k=>match bUk a k with
  |some o=>some o
  |none=>bUk b k
 | .cond _ a b,k=>match bUk a k with
  |some o=>some o
  |none=>bUk b k
 | .block _ c,k=>bUk c k
 | .loop c,k=>bUk c k
 | .scope c,k=>bUk c k
 | .rangeFunc _ _ a b,k=>match bUk a k with
  |some o=>some o
  |none=>bUk b k
 | _,_=>none
def opsOf (f:Func)(k:Nat):Array Oper:=((f.body.bind fun c=>bUk c k)).getD #[]
end Go.Proofs.YthggdomocichdaaGreatDoorW.PrintLast
namespace Go.Proofs.YthggdomocichdaaGreatDoorW.PrintLast
def up (b:Nat→Bool)(i:Nat):Nat→Bool:=fun j=>if j=i then true else b j
theorem aBq (b:Nat→Bool)(i:Nat):up b i i=true:=by simp [up]
theorem up_ne {b:Nat→Bool}{i j:Nat}(h:j≠i):up b i j=b j:=by simp [up,h]
def lof (n:Nat)(O:List Nat)(b:Nat→Bool):List Bool:=(List.range n).map fun j=>if O.contains j then b j else true
def awk (a:Act)(b:Nat→Bool):List (Nat×Tmp×Value)→Act
 | []=>a
 |e :: r=>awk (if b e.1=true then a.put (some e.2.1) e.2.2 else a) b r
section
variable {P:Program}{ops:Array Oper}{Q:Exit→Act→World→Prop}{md:Region.Mode}{T:Bool×List (List Nat×List Nat)}{B:List Nat}{O:List Nat}{b:Nat→Bool}{i j n:Nat}
theorem lof_length : (lof n O b).length=n:=by simp [lof]
theorem lof_get {d:Bool}(hj:j<n):(lof n O b).getD j d=if O.contains j then b j else true:=by
 simp [lof,List.getD_eq_getElem?_getD,hj]
theorem lof_up (hi:O.contains i=true):(lof n O b).set i true=lof n O (up b i):=by
 apply List.ext_getElem?
 intro j
 by_cases hj:j<n
 ·by_cases hij:i=j
  ·subst hij
   have hl:i<(lof n O b).length:=by rw [lof_length];exact hj
   rw [List.getElem?_set_self hl]
   simp only [lof,List.getElem?_map,List.getElem?_range hj,Option.map_some,hi,if_true,aBq]
  ·rw [List.getElem?_set_ne hij]
   simp only [lof,List.getElem?_map,List.getElem?_range hj,Option.map_some]
   rw [up_ne (Ne.symm hij)]
 ·rw [List.getElem?_eq_none (by simp [lof];omega),List.getElem?_eq_none (by simp [lof];omega)]
def bRk (P:Program)(ops:Array Oper)(Q:Exit→Act→World→Prop)(B:List Nat)(O:List Nat)(I:(Nat→Bool)→Act→World→Prop)(i:Nat):Prop:=
 ∀ b a w,I b a w→b i=false→(∀ j,(O.contains j && (B.getD i 0).testBit j)=true→b j=true)→(∀ d,(O.contains d && (B.getD d 0).testBit i)=true→b d=false) →
  ∃ oi,ops[i]? = some oi∧∀ K:Act→World→Prop,Shut (∀ a' w',I (up b i) a' w'→K a' w')→if Region.wanted oi (yielded ops a.tmps)=true then Oper.wp P oi a w K Q else K (a.put oi.dst undef) w
theorem bbq {I:(Nat→Bool)→Act→World→Prop}:∀ i∈([]:List Nat),bRk P ops Q B O I i:=fun _ h=>by cases h
theorem ajz {I:(Nat→Bool)→Act→World→Prop}{rs:List Nat}(h:bRk P ops Q B O I i)(hs:∀ j∈rs,bRk P ops Q B O I j):∀ j∈i :: rs,bRk P ops Q B O I j:=fun j hj=>by
 rcases List.mem_cons.1 hj with rfl|hj
 ·exact h
 ·exact hs j hj
def bez (T:List (List Nat×List Nat))(O:List Nat):Bool:=
 (List.range T.length).all (fun d=>match T[d]? with
  |some r=>(O.contains d || r.1.all fun n => !O.contains n) && r.1.all fun n=>decide (n<d)
  |none=>false) && O.all (fun i=>decide (i<T.length)) && decide O.Nodup
theorem aWq {T:List (List Nat×List Nat)}(h:bez T O=true){d:Nat}{r:List Nat×List Nat}(hr:T[d]? = some r):(O.contains d=false→∀ n∈r.1,O.contains n=false)∧∀ n∈r.1,n<d:=by
 simp only [bez,Bool.and_eq_true]at h
 have h1:=List.all_eq_true.1 h.1.1 d (List.mem_range.2 (List.getElem?_eq_some_iff.1 hr).1)
 rw [hr]at h1
 simp only [Bool.and_eq_true,Bool.or_eq_true,List.all_eq_true,decide_eq_true_eq]at h1
 refine⟨fun hd n hn=>?_,h1.2⟩
 rcases h1.1 with h2|h2
 ·rw [hd]at h2;cases h2
 ·simpa using h2 n hn
theorem baseOk_lt {T:List (List Nat×List Nat)}(h:bez T O=true){i:Nat}(hi:i∈O):i<T.length:=by
 simp only [bez,Bool.and_eq_true]at h
 simpa using List.all_eq_true.1 h.1.2 i hi
theorem baseOk_nodup {T:List (List Nat×List Nat)}(h:bez T O=true):O.Nodup:=by
 simp only [bez,Bool.and_eq_true]at h
 exact of_decide_eq_true h.2
def Closed (T:List (List Nat×List Nat))(O:List Nat)(b:Nat→Bool):Prop := ∀ d r,T[d]? = some r→O.contains d=true→b d=true→∀ n∈r.1,O.contains n=true→b n=true
theorem bits_out {T:List (List Nat×List Nat)}(hw:aLq T B=true)(hk:bez T O=true):∀ (m d:Nat),d≤m→d<T.length→O.contains d=false→∀ j,(B.getD d 0).testBit j=true→O.contains j=false:=by
 intro m
 induction m with
 |zero=>
  intro d hd hl hO j hj
  have hd0:d=0:=by omega
  subst hd0
  have hr:T[0]? = some T[0]:=List.getElem?_eq_getElem hl
  have h1:=List.all_eq_true.1 hw 0 (List.mem_range.2 hl)
  rw [hr]at h1
  simp only [beq_iff_eq]at h1
  have h2:(upM B 0 T[0].1).testBit j=true:=by rw [←h1,Nat.testBit_or,hj,Bool.true_or]
  obtain⟨n,hn,h3⟩:=bkz h2
  have:=(aWq hk hr).2 n hn
  omega
 |succ m ih=>
  intro d hd hl hO j hj
  have hr:T[d]? = some T[d]:=List.getElem?_eq_getElem hl
  have h1:=List.all_eq_true.1 hw d (List.mem_range.2 hl)
  rw [hr]at h1
  simp only [beq_iff_eq]at h1
  have h2:(upM B d T[d].1).testBit j=true:=by rw [←h1,Nat.testBit_or,hj,Bool.true_or]
  obtain⟨n,hn,h3⟩:=bkz h2
  have hO2:=(aWq hk hr).1 hO n hn
  rcases h3 with rfl|⟨h4,h5⟩
  ·exact hO2
  ·exact ih n (by omega) (by omega) hO2 j h5
theorem bPq {T:List (List Nat×List Nat)}(hw:aLq T B=true)(hk:bez T O=true)(hc:Closed T O b):∀ (m d:Nat),d≤m→d<T.length→O.contains d=true→b d=true→∀ j,O.contains j=true→(B.getD d 0).testBit j=true→b j=true:=by
 intro m
 induction m with
 |zero=>
  intro d hd hl hO hb j hjO hj
  have hd0:d=0:=by omega
  subst hd0
  have hr:T[0]? = some T[0]:=List.getElem?_eq_getElem hl
  have h1:=List.all_eq_true.1 hw 0 (List.mem_range.2 hl)
  rw [hr]at h1
  simp only [beq_iff_eq]at h1
  have h2:(upM B 0 T[0].1).testBit j=true:=by rw [←h1,Nat.testBit_or,hj,Bool.true_or]
  obtain⟨n,hn,h3⟩:=bkz h2
  have:=(aWq hk hr).2 n hn
  omega
 |succ m ih=>
  intro d hd hl hO hb j hjO hj
  have hr:T[d]? = some T[d]:=List.getElem?_eq_getElem hl
  have h1:=List.all_eq_true.1 hw d (List.mem_range.2 hl)
  rw [hr]at h1
  simp only [beq_iff_eq]at h1
  have h2:(upM B d T[d].1).testBit j=true:=by rw [←h1,Nat.testBit_or,hj,Bool.true_or]
  obtain⟨n,hn,h3⟩:=bkz h2
  rcases h3 with rfl|⟨h4,h5⟩
  ·exact hc d _ hr hO hb n hn hjO
  ·cases hO2:O.contains n with
   |true=>exact ih n (by omega) (by omega) hO2 (hc d _ hr hO hb n hn hO2) j hjO h5
   |false=>
    have:=bits_out hw hk n n (Nat.le_refl _) (by omega) hO2 j h5
    rw [hjO]at this
    cases this
theorem up_count : ∀ {O:List Nat},O.Nodup→i∈O→b i=false→(O.filter fun j => !up b i j).length+1=(O.filter fun j => !b j).length
 | [],_,hi,_=>by cases hi
 |x :: r,hn,hi,hb=>by
  rw [List.nodup_cons]at hn
  rcases List.mem_cons.1 hi with rfl|hi
  ·have h1:(r.filter fun j => !up b i j)=r.filter fun j => !b j:=by
    refine List.filter_congr (fun j hj=>?_)
    rw [up_ne (fun e=>hn.1 (by rw [←e];exact hj))]
   rw [List.filter_cons,List.filter_cons]
   simp [aBq,hb,h1]
  ·have hxi:x≠i:=fun e=>hn.1 (e ▸ hi)
   have h1:=up_count hn.2 hi hb
   rw [List.filter_cons,List.filter_cons,up_ne hxi]
   cases hbx:b x
   ·simp only [Bool.not_false,if_true,List.length_cons]
    omega
   ·simpa using h1
theorem inv_all (hT:rtab md ops=T)(hw:aLq T.2 B=true)(hk:bez T.2 O=true)(I:(Nat→Bool)→Act→World→Prop)(hs:∀ i∈O,bRk P ops Q B O I i)
  (hend:∀ b a w,(∀ j,O.contains j=true→b j=true)→I b a w→Q .normal a w) :
  ∀ (m:Nat) (b:Nat→Bool) (a:Act) (w:World),(O.filter fun j => !b j).length=m→Closed T.2 O b→I b a w→alz P md ops Q (fun _=>True) [] m (lof T.2.length O b).toArray a w:=by
 subst hT
 have mem_ready':∀ {b:Nat→Bool} {i:Nat},i∈Region.ready md ops (lof (rtab md ops).2.length O b).toArray→i<(rtab md ops).2.length∧O.contains i=true∧b i=false∧∀ r,(rtab md ops).2[i]? = some r→∀ n∈r.1,n<(rtab md ops).2.length→O.contains n=true→b n=true:=by
  intro b i hi
  rw [ready_eq]at hi
  unfold bJk at hi
  rw [List.mem_filter,List.mem_range]at hi
  obtain⟨hl,h1⟩:=hi
  unfold a1q at h1
  rw [Bool.and_eq_true,lof_get hl]at h1
  obtain⟨h2,h3⟩:=h1
  have h4:O.contains i=true:=by
   cases h:O.contains i with
   |true=>rfl
   |false=>rw [h]at h2;simp at h2
  rw [h4]at h2
  refine⟨hl,h4,by simpa using h2,fun r hr n hn hnl hO=>?_⟩
  rw [hr]at h3
  simp only [List.all_eq_true]at h3
  have h5:=h3 n hn
  rw [lof_get hnl,hO]at h5
  simpa using h5
 intro m
 induction m with
 |zero=>
  intro b a w hm hc hI
  have hall:∀ j,O.contains j=true→b j=true:=by
   intro j hj
   cases hb:b j with
   |true=>rfl
   |false=>
    have:j∈O.filter fun j => !b j:=List.mem_filter.2 ⟨List.contains_iff_mem.1 hj,by simp [hb]⟩
    rw [List.eq_nil_of_length_eq_zero hm]at this
    cases this
  refine⟨?_,hend b a w hall hI⟩
  refine List.eq_nil_iff_forall_not_mem.2 (fun i hi=>?_)
  obtain⟨_,h1,h2,_⟩:=mem_ready' hi
  rw [hall i h1]at h2
  cases h2
 |succ m ih=>
  intro b a w hm hc hI
  refine⟨fun hr=>?_,fun i hi=>?_⟩
  ·exfalso
   -- the smallest number that isn't listed is ready
   have hex:∃ i,O.contains i=true∧b i=false:=by
    cases hf:O.filter (fun j => !b j)with
    |nil=>rw [hf]at hm;simp at hm
    |cons x r=>
     have hx:x∈O.filter (fun j => !b j):=by rw [hf];exact List.mem_cons_self
     rw [List.mem_filter]at hx
     exact⟨x,List.contains_iff_mem.2 hx.1,by simpa using hx.2⟩
   have hmin:∀ k,(∃ i,i≤k∧O.contains i=true∧b i=false)→∃ i,O.contains i=true∧b i=false∧∀ j,j<i→O.contains j=true→b j=true:=by
    intro k
    induction k with
    |zero=>
     rintro⟨i,hi,h1,h2⟩
     exact⟨i,h1,h2,fun j hj=>by omega⟩
    |succ k ihk=>
     rintro⟨i,hi,h1,h2⟩
     by_cases hlow:∃ j,j≤k∧O.contains j=true∧b j=false
     ·exact ihk hlow
     ·refine⟨i,h1,h2,fun j hj hO=>?_⟩
      cases hb:b j with
      |true=>rfl
      |false=>exact absurd ⟨j,by omega,hO,hb⟩ hlow
   obtain⟨i0,h1,h2⟩:=hex
   obtain⟨i,hO,hb,hlow⟩:=hmin i0 ⟨i0,Nat.le_refl _,h1,h2⟩
   have hl:=baseOk_lt hk (List.contains_iff_mem.1 hO)
   have hin:i∈Region.ready md ops (lof (rtab md ops).2.length O b).toArray:=by
    rw [ready_eq]
    unfold bJk
    rw [List.mem_filter,List.mem_range]
    refine⟨hl,?_⟩
    unfold a1q
    rw [lof_get hl,hO,hb]
    have hr2:(rtab md ops).2[i]? = some (rtab md ops).2[i]:=List.getElem?_eq_getElem hl
    rw [hr2]
    simp only [if_true,Bool.not_false,Bool.true_and,List.all_eq_true]
    intro n hn
    have hni:=(aWq hk hr2).2 n hn
    rw [lof_get (by omega)]
    cases hOn:O.contains n with
    |true=>simpa using hlow n hni hOn
    |false=>simp
   rw [hr]at hin
   cases hin
  ·obtain⟨hl,hO,hb,hneed⟩:=mem_ready' hi
   have hon:∀ j,(O.contains j && (B.getD i 0).testBit j)=true→b j=true:=by
    intro j hj
    rw [Bool.and_eq_true]at hj
    have hr2:(rtab md ops).2[i]? = some (rtab md ops).2[i]:=List.getElem?_eq_getElem hl
    have h1:=List.all_eq_true.1 hw i (List.mem_range.2 hl)
    rw [hr2]at h1
    simp only [beq_iff_eq]at h1
    have h2:(upM B i (rtab md ops).2[i].1).testBit j=true:=by rw [←h1,Nat.testBit_or,hj.2,Bool.true_or]
    obtain⟨n,hn,h3⟩:=bkz h2
    have hni:=(aWq hk hr2).2 n hn
    rcases h3 with rfl|⟨h4,h5⟩
    ·exact hneed _ hr2 n hn (by omega) hj.1
    ·cases hO2:O.contains n with
     |true=>exact bPq hw hk hc n n (Nat.le_refl _) (by omega) hO2 (hneed _ hr2 n hn (by omega) hO2) j hj.1 h5
     |false=>
      have:=bits_out hw hk n n (Nat.le_refl _) (by omega) hO2 j h5
      rw [hj.1]at this
      cases this
   have hoff:∀ d,(O.contains d && (B.getD d 0).testBit i)=true→b d=false:=by
    intro d hd
    rw [Bool.and_eq_true]at hd
    cases hbd:b d with
    |false=>rfl
    |true=>
     have hdl:=baseOk_lt hk (List.contains_iff_mem.1 hd.1)
     have:=bPq hw hk hc d d (Nat.le_refl _) hdl hd.1 hbd i hO hd.2
     rw [hb]at this
     cases this
   obtain⟨oi,hoi,hK⟩:=hs i (List.contains_iff_mem.1 hO) b a w hI hb hon hoff
   refine wpOp_step hoi (fun K' hK'=>hK K' (fun a' w' hI'=>hK' a' w' ⟨fun _ _=>trivial,?_⟩))
   have hset:(lof (rtab md ops).2.length O b).toArray.setIfInBounds i true=(lof (rtab md ops).2.length O (up b i)).toArray:=by
    apply Array.ext'
    rw [Array.toList_setIfInBounds]
    exact lof_up hO
   rw [hset]
   refine ih (up b i) a' w' ?_ ?_ hI'
   ·have:=up_count (baseOk_nodup hk) (List.contains_iff_mem.1 hO) hb
    omega
   ·intro d r hr hOd hbd n hn hOn
    by_cases hni:n=i
    ·rw [hni,aBq]
    ·rw [up_ne hni]
     by_cases hdi:d=i
     ·subst hdi
      exact hneed r hr n hn (by have:=(aWq hk hr).2 n hn;omega) hOn
     ·rw [up_ne hdi]at hbd
      exact hc d r hr hOd hbd n hn hOn
theorem auz {b:Nat→Bool}{t:Tmp}:∀ {L:List (Nat×Tmp×Value)} {a:Act},(L.all fun e => !(e.2.1 == t))=true→(awk a b L).tmps[t]? = a.tmps[t]?
 | [],_,_=>rfl
 |e :: r,a,h=>by
  rw [List.all_cons,Bool.and_eq_true]at h
  have he:e.2.1≠t:=by simpa using h.1
  unfold awk
  by_cases hb:b e.1=true
  ·rw [if_pos hb,auz h.2]
   simp [Act.put,Array.getElem?_setIfInBounds_ne he]
  ·rw [if_neg hb]
   exact auz h.2
theorem alq {b:Nat→Bool}{e:Nat×Tmp×Value}:∀ {L:List (Nat×Tmp×Value)} {a:Act} (k:Nat),L[k]? = some e→((L.drop (k+1)).all fun x => !(x.2.1 == e.2.1))=true→b e.1=true→Nat.ble (e.2.1+1) a.tmps.size=true→(awk a b L).tmps[e.2.1]? = some e.2.2
 | [],_,_,h,_,_,_=>by cases h
 |x :: r,a,0,h,hd,hb,ht=>by
  simp only [List.getElem?_cons_zero,Option.some.injEq]at h
  subst h
  unfold awk
  rw [if_pos hb,auz (by simpa using hd)]
  have ht2:x.2.1<a.tmps.size:=Nat.le_of_ble_eq_true ht
  simp [Act.put,ht2]
 |x :: r,a,k+1,h,hd,hb,ht=>by
  unfold awk
  refine alq k (by simpa using h) (by simpa using hd) hb ?_
  by_cases hx:b x.1=true
  ·rw [if_pos hx]
   simpa [Act.put]using ht
  ·rw [if_neg hx]
   exact ht
theorem put_comm {a:Act}{s t:Tmp}{u v:Value}(h:s≠t):(a.put (some s) u).put (some t) v=(a.put (some t) v).put (some s) u:=by
 simp only [Act.put]
 rw [Array.setIfInBounds_comm _ _ h]
theorem bxq {b:Nat→Bool}{t:Tmp}{v:Value}:∀ {L:List (Nat×Tmp×Value)} {a:Act},(L.all fun e => !(e.2.1 == t))=true→(awk a b L).put (some t) v=awk (a.put (some t) v) b L
 | [],_,_=>rfl
 |e :: r,a,h=>by
  rw [List.all_cons,Bool.and_eq_true]at h
  have he:e.2.1≠t:=by simpa using h.1
  unfold awk
  by_cases hb:b e.1=true
  ·rw [if_pos hb,if_pos hb,bxq h.2,put_comm he]
  ·rw [if_neg hb,if_neg hb]
   exact bxq h.2
theorem bmz {b:Nat→Bool}{i:Nat}:∀ {L:List (Nat×Tmp×Value)} {a:Act},(L.all fun e => !(e.1 == i))=true→awk a (up b i) L=awk a b L
 | [],_,_=>rfl
 |e :: r,a,h=>by
  rw [List.all_cons,Bool.and_eq_true]at h
  have he:e.1≠i:=by simpa using h.1
  unfold awk
  rw [up_ne he]
  exact bmz h.2
theorem putSel_up {b:Nat→Bool}{i:Nat}{t:Tmp}{v0 v:Value}:∀ {L1 L2:List (Nat×Tmp×Value)} {a:Act},b i=false→((L1++L2).all fun e => !(e.1 == i) && !(e.2.1 == t))=true →
  (awk a b (L1++(i,t,v0) :: L2)).put (some t) v=awk a (up b i) (L1++(i,t,v) :: L2)
 | [],L2,a,hb,h=>by
  simp only [List.nil_append]at h ⊢
  have h1:(L2.all fun e => !(e.1 == i))=true:=List.all_eq_true.2 (fun e he=>by have:=List.all_eq_true.1 h e he;simp only [Bool.and_eq_true]at this;exact this.1)
  have h2:(L2.all fun e => !(e.2.1 == t))=true:=List.all_eq_true.2 (fun e he=>by have:=List.all_eq_true.1 h e he;simp only [Bool.and_eq_true]at this;exact this.2)
  unfold awk
  rw [if_neg (by rw [hb];decide),if_pos (aBq b i),bxq h2,bmz h1]
 |e :: r,L2,a,hb,h=>by
  simp only [List.cons_append,List.all_cons,Bool.and_eq_true]at h
  have he:e.1≠i:=by simpa using h.1.1
  simp only [List.cons_append]
  unfold awk
  rw [up_ne he]
  exact putSel_up hb h.2
theorem ajk {b:Nat→Bool}{i:Nat}{t:Tmp}{v0 v:Value}{a:Act}{L L':List (Nat×Tmp×Value)}(k:Nat)(hb:b i=false)(hL:L[k]? = some (i,t,v0))(hL':L.set k (i,t,v)=L')(hd:((L.take k++L.drop (k+1)).all fun e => !(e.1 == i) && !(e.2.1 == t))=true) :
  (awk a b L).put (some t) v=awk a (up b i) L':=by
 have hk:=(List.getElem?_eq_some_iff.1 hL).1
 have h1:L=L.take k++(i,t,v0) :: L.drop (k+1):=by
  have h2:L[k]=(i,t,v0):=(List.getElem?_eq_some_iff.1 hL).2
  rw [←h2,List.getElem_cons_drop,List.take_append_drop]
 have h3:L'=L.take k++(i,t,v) :: L.drop (k+1):=by rw [←hL',List.set_eq_take_append_cons_drop,if_pos hk]
 rw [h3]
 conv=>lhs;rw [h1]
 exact putSel_up hb hd
theorem bLq {b:Nat→Bool}{i:Nat}{L:List (Nat×Tmp×Value)}{a:Act}{v:Value}(h:(L.all fun e => !(e.1 == i))=true):(awk a b L).put none v=awk a (up b i) L:=(bmz h).symm
theorem inv_ {l:Array Bool}{fuel:Nat}{a:Act}{w:World}(O:List Nat)(I:(Nat→Bool)→Act→World→Prop)(hT:rtab md ops=T)(hw:aLq T.2 B=true)(hk:bez T.2 O=true)
  (hl:(lof T.2.length O (fun _=>false) == l.toList && O.length == fuel)=true) (h0:I (fun _=>false) a w) (hs:∀ i∈O,bRk P ops Q B O I i)
  (hend:∀ b a w,(∀ j,O.contains j=true→b j=true)→I b a w→Q .normal a w):alz P md ops Q (fun _=>True) [] fuel l a w:=by
 rw [Bool.and_eq_true,beq_iff_eq,beq_iff_eq]at hl
 have h1:=inv_all hT hw hk I hs hend fuel (fun _=>false) a w (by rw [←hl.2];simp) (fun d r _ _ hb=>by cases hb) h0
 have h2:(lof T.2.length O (fun _=>false)).toArray=l:=by apply Array.ext';exact hl.1
 rw [h2]at h1
 exact h1
theorem inv_at {l:Array Bool}{fuel:Nat}{a:Act}{w:World}(O:List Nat)(I:Act→(Nat→Bool)→Act→World→Prop)(hT:rtab md ops=T)(hw:aLq T.2 B=true)(hk:bez T.2 O=true)
  (hl:(lof T.2.length O (fun _=>false) == l.toList && O.length == fuel)=true) (h0:I a (fun _=>false) a w) (hs:∀ i∈O,bRk P ops Q B O (I a) i)
  (hend:∀ b a' w,(∀ j,O.contains j=true→b j=true)→I a b a' w→Q .normal a' w):alz P md ops Q (fun _=>True) [] fuel l a w:=inv_ O (I a) hT hw hk hl h0 hs hend
end
end Go.Proofs.YthggdomocichdaaGreatDoorW.PrintLast
namespace Go.Proofs.YthggdomocichdaaGreatDoorW.PrintWords
open Go.RowKit
theorem Kd.a0k {α : Type}{d:Kd α}{e base:Nat}{ok:Nat→Prop}{w:World}{v:Value}{xs:List α}(h:d.R e w base ok v xs)(hn:0<xs.length):∃ (ad:Addr) (c:Nat),v=.slice (some ad) xs.length c:=by
 obtain⟨A,c,rfl⟩:=Kd.afz h
 have h2:=(Kd.ack h).2.2
 obtain⟨ad,he,_⟩:=h2.2.2 hn
 subst he
 exact⟨ad,c,rfl⟩
theorem Kd.R_flat {α : Type}{d:Kd α}{e base:Nat}{ok ok':Nat→Prop}{w:World}{v:Value}{xs:List α}(hd:∀ {ok1 ok2:Nat→Prop} {x : α} {cs:List Value},d.M w base ok1 x cs→d.M w base ok2 x cs)(h:d.R e w base ok v xs)(hok:∀ k,v.ownBlock=some k→ok k→ok' k):d.R e w base ok' v xs:=by
 obtain⟨h0,inner,hown,hr⟩:=h
 exact⟨fun k hk=>hok k hk (h0 k hk),inner,hown,hr.imp_ (fun _ _ hm=>hd hm)⟩
theorem own_apart {v1 v2:Value}{n:Nat}(hlt:∀ k,v1.ownBlock=some k→k<n)(hge:∀ k,v2.ownBlock=some k→n≤k):v1.ownBlock=none∨v1.ownBlock≠v2.ownBlock:=by
 cases h:v1.ownBlock with
 |none=>exact .inl rfl
 |some k=>exact .inr (fun e=>by have:=hlt k h;have:=hge k e.symm;omega)
theorem bgk {v1 v2:Value}{n:Nat}(hge:∀ k,v1.ownBlock=some k→n≤k)(hlt:∀ k,v2.ownBlock=some k→k<n):v1.ownBlock=none∨v1.ownBlock≠v2.ownBlock:=by
 cases h:v1.ownBlock with
 |none=>exact .inl rfl
 |some k=>exact .inr (fun e=>by have:=hge k h;have:=hlt k e.symm;omega)
theorem atom_of {v1 v2:Value}{k:Nat}(h:v1.ownBlock=none∨v1.ownBlock≠v2.ownBlock)(hk:v1.ownBlock=some k):some k≠v2.ownBlock:=by
 rcases h with h|h
 ·rw [h]at hk;cases hk
 ·rw [←hk];exact h
end Go.Proofs.YthggdomocichdaaGreatDoorW.PrintWords
namespace Go.Proofs.YthggdomocichdaaGreatDoorW.PrintLast
section
variable {ops:Array Oper}{a:Act}{o og:Oper}{g:Nat}{t:Tmp}{u:Bool}
theorem apq {v:Value}(h:a.tmps[t]? = some v):a.eval (.tmp t)=v:=by simp [Act.eval,h]
end
end Go.Proofs.YthggdomocichdaaGreatDoorW.PrintLast
namespace Go.Proofs.YthggdomocichdaaGreatDoor.P
open Go.RowKit Go.Proofs.YthggdomocichdaaGreatDoorW.PrintWords Go.Proofs.YthggdomocichdaaGreatDoorW.PrintLast Go.Proofs.YthggdomocichdaaGreatDoorW.PrintMore
attribute [local go_sem] awq awz aCq aCz azk azq aFz aEk
def errW : Option Int→Value
 |none=>.nilIface
 |some c=>.iface 0 (.int .i64 c)
theorem aek : errW none=.nilIface:=rfl
theorem aeq (c:Int):errW (some c)=.iface 0 (.int .i64 c):=rfl
theorem info3 : (Tryz.prog.info? 3).map (fun i=>(i.zero,i.size,i.bytes))=some (some (.int .i64 0),1,8):=by kernel_rfl
theorem info5 : (Tryz.prog.info? 5).map (fun i=>(i.zero,i.size,i.bytes))=some (some (.int .u8 0),1,1):=by kernel_rfl
theorem info9 : (Tryz.prog.info? 9).map (fun i=>(i.zero,i.size,i.bytes))=some (some (.string ⟨#[]⟩),1,16):=by kernel_rfl
theorem bNq : (Tryz.prog.info? 22).map (fun i=>(i.zero,i.size,i.bytes))=some (some (.int .u64 0),1,8):=by kernel_rfl
theorem info43 : (Tryz.prog.info? 43).map (fun i=>(i.zero,i.size,i.bytes))=some (some (.agg #[(.string ⟨#[]⟩),(.slice none 0 0)]),2,40):=by kernel_rfl
theorem info56 : (Tryz.prog.info? 56).map (fun i=>(i.zero,i.size,i.bytes))=some (some (.agg #[(.int .i64 0),(.int .u64 0)]),2,16):=by kernel_rfl
structure S75 where
 f0:ByteArray
 f1:Int
def z75 : S75:=⟨(⟨#[]⟩:ByteArray),(0:Int)⟩
def k75 : Kd S75:=Kd.iso (Kd.pair Kd.string (Kd.int .i64)) (fun x:S75=>(x.f0,x.f1))
theorem k75_open {w:World}{x:S75}{cs:List Value}(h:k75.K w x cs):cs=[.string x.f0,.int .i64 x.f1]:=by
 obtain⟨_,_,rfl,rfl,rfl⟩:=h
 exact rfl
theorem k75_mkM (w:World)(base:Nat)(ok:Nat→Prop)(x:S75)  : k75.M w base ok x [.string x.f0,.int .i64 x.f1]:=⟨[.string x.f0],[.int .i64 x.f1],rfl,rfl,rfl⟩
def bKk (xs:List S75)(i:Int):S75:=xs.getD i.toNat z75
theorem b4k {w:World}{A:Option Addr}{n:Nat}{xs:List S75}(h:Kd.C k75 w A n xs)(i:Int)(h0:0≤i)(h1:i<n):∃ ad ,A=some ad∧w.cell? (ad.add (i.toNat*2))=some (.string (bKk xs i).f0)∧w.cell? ⟨(ad.add (i.toNat*2)).block,(ad.add (i.toNat*2)).off+1,none⟩=some (.int .i64 (bKk xs i).f1):=by
 obtain⟨ad,c,e,_,hK,hc0⟩:=Kd.C_get h z75 i h0 h1
 have hc:∀ j u,c[j]? = some u→w.cell? (ad.add (i.toNat*2+j))=some u:=hc0
 obtain rfl:=k75_open hK
 exact⟨ad,e,hc 0 _ rfl,by rw [←bRz _ _ 1 (by omega)];exact hc 1 _ rfl⟩
structure S56 where
 f0:Int
 f1:Int
def z56 : S56:=⟨(0:Int),(0:Int)⟩
def k56 : Kd S56:=Kd.iso (Kd.pair (Kd.int .i64) (Kd.int .u64)) (fun x:S56=>(x.f0,x.f1))
theorem k56_open {w:World}{x:S56}{cs:List Value}(h:k56.K w x cs):cs=[.int .i64 x.f0,.int .u64 x.f1]:=by
 obtain⟨_,_,rfl,rfl,rfl⟩:=h
 exact rfl
theorem k56_mkM (w:World)(base:Nat)(ok:Nat→Prop)(x:S56)  : k56.M w base ok x [.int .i64 x.f0,.int .u64 x.f1]:=⟨[.int .i64 x.f0],[.int .u64 x.f1],rfl,rfl,rfl⟩
def bYq (xs:List S56)(i:Int):S56:=xs.getD i.toNat z56
theorem at_T56 {w:World}{A:Option Addr}{n:Nat}{xs:List S56}(h:Kd.C k56 w A n xs)(i:Int)(h0:0≤i)(h1:i<n):∃ ad ,A=some ad∧w.cell? (ad.add (i.toNat*2))=some (.int .i64 (bYq xs i).f0)∧w.cell? ⟨(ad.add (i.toNat*2)).block,(ad.add (i.toNat*2)).off+1,none⟩=some (.int .u64 (bYq xs i).f1):=by
 obtain⟨ad,c,e,_,hK,hc0⟩:=Kd.C_get h z56 i h0 h1
 have hc:∀ j u,c[j]? = some u→w.cell? (ad.add (i.toNat*2+j))=some u:=hc0
 obtain rfl:=k56_open hK
 exact⟨ad,e,hc 0 _ rfl,by rw [←bRz _ _ 1 (by omega)];exact hc 1 _ rfl⟩
structure S43 where
 f0:ByteArray
 f1:(List S56)
def z43 : S43:=⟨(⟨#[]⟩:ByteArray),([]:List S56)⟩
def k43 : Kd S43:=Kd.iso (Kd.pair Kd.string (Kd.slice 56 k56)) (fun x:S43=>(x.f0,x.f1))
theorem k43_open {w:World}{x:S43}{cs:List Value}(h:k43.K w x cs):∃ A1 c1,cs=[.string x.f0,.slice A1 x.f1.length c1]∧x.f1.length≤c1∧k56.C w A1 x.f1.length x.f1:=by
 obtain⟨_,_,rfl,rfl,⟨A1,c1,rfl,l1,g1⟩⟩:=h
 exact⟨A1,c1,rfl,l1,g1⟩
theorem k43_mkM (w:World)(base:Nat)(ok:Nat→Prop)(x:S43){v1:Value}(g1:k56.R 56 w base ok v1 x.f1):k43.M w base ok x [.string x.f0,v1]:=⟨[.string x.f0],[v1],rfl,rfl,⟨v1,rfl,g1⟩⟩
def bLz (xs:List S43)(i:Int):S43:=xs.getD i.toNat z43
theorem bQk {w:World}{A:Option Addr}{n:Nat}{xs:List S43}(h:Kd.C k43 w A n xs)(i:Int)(h0:0≤i)(h1:i<n):∃ ad A1 c1,A=some ad∧w.cell? (ad.add (i.toNat*2))=some (.string (bLz xs i).f0)∧w.cell? ⟨(ad.add (i.toNat*2)).block,(ad.add (i.toNat*2)).off+1,none⟩=some (.slice A1 (bLz xs i).f1.length c1)∧(bLz xs i).f1.length≤c1∧k56.C w A1 (bLz xs i).f1.length (bLz xs i).f1:=by
 obtain⟨ad,c,e,_,hK,hc0⟩:=Kd.C_get h z43 i h0 h1
 have hc:∀ j u,c[j]? = some u→w.cell? (ad.add (i.toNat*2+j))=some u:=hc0
 obtain⟨A1,c1,rfl,l1,g1⟩:=k43_open hK
 exact⟨ad,A1,c1,e,hc 0 _ rfl,by rw [←bRz _ _ 1 (by omega)];exact hc 1 _ rfl,l1,g1⟩
def archive_right.f (a0_0:Int)(l0_1:List Int):Option (Bool):=if(l0_1.length:Int)=0 then(some true)else(some ((l0_1.length:Int) == 32))
set_option maxHeartbeats 8000000 in
theorem archive_right.calls (a0_0:Int)(A0_1:Option Addr)(c0_1:Nat)(l0_1:List Int)(r:Bool)(w:World)(hr0_1:Kd.C (Kd.int .u8) w A0_1 l0_1.length l0_1)(hc0_1:l0_1.length≤c0_1)(h:archive_right.f a0_0 l0_1=some r) :
  Calls Tryz.prog 19 #[.agg #[.int .u64 a0_0,.slice A0_1 l0_1.length c0_1]] w fun e w'=>e=.returned (.bool r)∧Below w.heap.size w w':=by
 have hu29:=Tryz.underlying29
 have HR0_1:=Qz.k hr0_1
 have HC0_1:=Qz.k hc0_1
 clear hr0_1 hc0_1
 have HB:=Qz.k (Below.refl w.heap.size w)
 have H:(if(l0_1.length:Int)=0 then(some true)else(some ((l0_1.length:Int) == 32)))=some r:=h
 clear h
 by_cases c2:(l0_1.length:Int)=0
 ·rw [if_pos c2]at H
  have c2b0:((l0_1.length:Int) == 0)=true:=beq_iff_eq.mpr c2
  have c2b1:((l0_1.length:Int) != 0)=false:=bne_eq_false_iff_eq.mpr c2
  clear c2
  obtain rfl:=Option.some.inj H
  go_enter Tryz.func19,Tryz.ntmps19
  go_wp2_with (first|((with_reducible refine ahk (N:=1) rfl ?_);(try(refine bhz (by rfl) ?_;dsimp only));refine aik ?hg (N:=1) ?hd (cs:=#[.int .u64 a0_0,.slice A0_1 l0_1.length c0_1]) (t:=29) ?hr ?_;(case hd=>rfl);(case hg=>rfl);(case hr=>first|(go_simp;done)|(go_simp;rfl));intro gb101 hg w3 hbox hb;have n0_:=Qz.k (aaz au_ hb);have n1_:=Qz.k (hbox);have n2_:=Qz.k ((by rw [hg];exact(afq au_):w.heap.size≤gb101));have n3_:=Qz.k ((by rw [hg];exact(afq au_):w.heap.size≤gb101));clear HB;have HB:=n0_;have BK101:=n1_;have GW101:=n2_;have GE101:=n3_;clear n0_ n1_ n2_ n3_;clear hb hbox hg;have hcz4_0:w3.cell? ⟨gb101,0,none⟩=some (.int .u64 a0_0):=(aak BK101.out 0).trans rfl;have hcz4_1:w3.cell? ⟨gb101,1,none⟩=some (.slice A0_1 l0_1.length c0_1):=(aak BK101.out 1).trans rfl;have hfz4_0:=afk BK101.out 0;have hfz4_1:=afk BK101.out 1))
  go_ret
  exact⟨by first|rfl|(simp [aek,aeq] <;> rfl)|(simp [*,aek,aeq] <;> rfl),by repeat(first|(with_reducible first|exact HB.out|apply aaq|apply adz|apply aez|refine adq ?_ GE101.out)|exact HB.out)⟩
 ·rw [if_neg c2]at H
  have c2b0:((l0_1.length:Int) == 0)=false:=beq_eq_false_iff_ne.mpr c2
  have c2b1:((l0_1.length:Int) != 0)=true:=bne_iff_ne.mpr c2
  have c2b2:¬ (l0_1=[]):=fun h_=>c2 (by rw [h_];rfl)
  obtain rfl:=Option.some.inj H
  go_enter Tryz.func19,Tryz.ntmps19
  go_wp2_with (first|((with_reducible refine ahk (N:=1) rfl ?_);(try(refine bhz (by rfl) ?_;dsimp only));refine aik ?hg (N:=1) ?hd (cs:=#[.int .u64 a0_0,.slice A0_1 l0_1.length c0_1]) (t:=29) ?hr ?_;(case hd=>rfl);(case hg=>rfl);(case hr=>first|(go_simp;done)|(go_simp;rfl));intro gb101 hg w5 hbox hb;have n0_:=Qz.k (aaz au_ hb);have n1_:=Qz.k (hbox);have n2_:=Qz.k ((by rw [hg];exact(afq au_):w.heap.size≤gb101));have n3_:=Qz.k ((by rw [hg];exact(afq au_):w.heap.size≤gb101));clear HB;have HB:=n0_;have BK101:=n1_;have GW101:=n2_;have GE101:=n3_;clear n0_ n1_ n2_ n3_;clear hb hbox hg;have hcz6_0:w5.cell? ⟨gb101,0,none⟩=some (.int .u64 a0_0):=(aak BK101.out 0).trans rfl;have hcz6_1:w5.cell? ⟨gb101,1,none⟩=some (.slice A0_1 l0_1.length c0_1):=(aak BK101.out 1).trans rfl;have hfz6_0:=afk BK101.out 0;have hfz6_1:=afk BK101.out 1))
  go_ret
  exact⟨by first|rfl|(simp [aek,aeq] <;> rfl)|(simp [*,aek,aeq] <;> rfl),by repeat(first|(with_reducible first|exact HB.out|apply aaq|apply adz|apply aez|refine adq ?_ GE101.out)|exact HB.out)⟩
def archive_trusts.f (a0_0:Int)(l0_1:List Int):Option (Bool):=some (decide ((l0_1.length:Int) > 0))
set_option maxHeartbeats 8000000 in
theorem archive_trusts.calls (a0_0:Int)(A0_1:Option Addr)(c0_1:Nat)(l0_1:List Int)(r:Bool)(w:World)(hr0_1:Kd.C (Kd.int .u8) w A0_1 l0_1.length l0_1)(hc0_1:l0_1.length≤c0_1)(h:archive_trusts.f a0_0 l0_1=some r) :
  Calls Tryz.prog 20 #[.agg #[.int .u64 a0_0,.slice A0_1 l0_1.length c0_1]] w fun e w'=>e=.returned (.bool r)∧Below w.heap.size w w':=by
 have hu29:=Tryz.underlying29
 have HR0_1:=Qz.k hr0_1
 have HC0_1:=Qz.k hc0_1
 clear hr0_1 hc0_1
 have HB:=Qz.k (Below.refl w.heap.size w)
 have H:(some (decide ((l0_1.length:Int) > 0)))=some r:=h
 clear h
 obtain rfl:=Option.some.inj H
 go_enter Tryz.func20,Tryz.ntmps20
 go_wp2_with (first|((with_reducible refine ahk (N:=1) rfl ?_);refine aik ?hg (N:=1) ?hd (cs:=#[.int .u64 a0_0,.slice A0_1 l0_1.length c0_1]) (t:=29) ?hr ?_;(case hd=>rfl);(case hg=>rfl);(case hr=>first|(go_simp;done)|(go_simp;rfl));intro gb102 hg w2 hbox hb;have n0_:=Qz.k (aaz au_ hb);have n1_:=Qz.k (hbox);have n2_:=Qz.k ((by rw [hg];exact(afq au_):w.heap.size≤gb102));have n3_:=Qz.k ((by rw [hg];exact(afq au_):w.heap.size≤gb102));clear HB;have HB:=n0_;have BK102:=n1_;have GW102:=n2_;have GE102:=n3_;clear n0_ n1_ n2_ n3_;clear hb hbox hg;have hcz3_0:w2.cell? ⟨gb102,0,none⟩=some (.int .u64 a0_0):=(aak BK102.out 0).trans rfl;have hcz3_1:w2.cell? ⟨gb102,1,none⟩=some (.slice A0_1 l0_1.length c0_1):=(aak BK102.out 1).trans rfl;have hfz3_0:=afk BK102.out 0;have hfz3_1:=afk BK102.out 1))
 go_ret
 exact⟨by first|rfl|(simp [aek,aeq] <;> rfl)|(simp [*,aek,aeq] <;> rfl),by repeat(first|(with_reducible first|exact HB.out|apply aaq|apply adz|apply aez|refine adq ?_ GE102.out)|exact HB.out)⟩
def hmac_Same.l0 : Nat→List Int→List Int→Int→Int→Int→Option (Bool)
 | 0,_,_,_,_,_=>none
 |k+1,x0,x1,x5,x13,x14=>if x14<x13 then(if 0≤x14 then(if x14<(x0.length:Int)then(if x14<(x1.length:Int)then(hmac_Same.l0 k x0 x1 (Go.bits .or .u8 x5 (Go.bits .xor .u8 (rd x0 x14) (rd x1 x14))) x13 (wrap64 (x14+1)))else(none))else(none))else(none))else(some (x5 == 0))
def hmac_Same.f (k:Nat)(l0:List Int)(l1:List Int):Option (Bool):=if(l0.length:Int)=(l1.length:Int)then(hmac_Same.l0 k l0 l1 0 (l0.length:Int) 0)else(some false)
theorem hmac_Same.atz : ∀ k,(∀ y0 y1 y2 y3 y4,LeO (hmac_Same.l0 k y0 y1 y2 y3 y4) (hmac_Same.l0 (k+1) y0 y1 y2 y3 y4))
 | 0=>fun _ _ _ _ _ r h=>by simp [hmac_Same.l0]at h
 |k+1=>by
  have ih0:=hmac_Same.atz k
  ·intro y0 y1 y2 y3 y4
   unfold hmac_Same.l0
   repeat' first
   |(with_reducible exact ih0 _ _ _ _ _)
   |(with_reducible exact LeO.refl _)
   |(with_reducible exact LeO.none _)
   |(with_reducible refine LeO.ite ?_ ?_)
   |(with_reducible refine LeO.bind ?_ (fun _=>?_))
   |exact ih0 _ _ _ _ _
   |exact LeO.none _
   |refine LeO.ite ?_ ?_
   |refine LeO.bind ?_ (fun _=>?_)
theorem hmac_Same.mono : ∀ a0 a1 k,LeO (hmac_Same.f k a0 a1) (hmac_Same.f (k+1) a0 a1):=by
 intro a0 a1 k
 have ih0:=hmac_Same.atz k
 unfold hmac_Same.f
 repeat' first
   |(with_reducible exact ih0 _ _ _ _ _)
   |(with_reducible exact LeO.refl _)
   |(with_reducible exact LeO.none _)
   |(with_reducible refine LeO.ite ?_ ?_)
   |(with_reducible refine LeO.bind ?_ (fun _=>?_))
   |exact ih0 _ _ _ _ _
   |exact LeO.none _
   |refine LeO.ite ?_ ?_
   |refine LeO.bind ?_ (fun _=>?_)
set_option maxHeartbeats 8000000 in
theorem hmac_Same.calls (k:Nat)(A0:Option Addr)(c0:Nat)(l0:List Int)(A1:Option Addr)(c1:Nat)(l1:List Int)(r:Bool)(w:World)(hr0:Kd.C (Kd.int .u8) w A0 l0.length l0)(hc0:l0.length≤c0)(hr1:Kd.C (Kd.int .u8) w A1 l1.length l1)(hc1:l1.length≤c1)(h:hmac_Same.f k l0 l1=some r) :
  Calls Tryz.prog 30 #[.slice A0 l0.length c0,.slice A1 l1.length c1] w fun e w'=>e=.returned (.bool r)∧Drawn0 w w':=by
 have HR0:=Qz.k hr0
 have HC0:=Qz.k hc0
 clear hr0 hc0
 have HR1:=Qz.k hr1
 have HC1:=Qz.k hc1
 clear hr1 hc1
 have H:(if(l0.length:Int)=(l1.length:Int)then(hmac_Same.l0 k l0 l1 0 (l0.length:Int) 0)else(some false))=some r:=h
 clear h
 by_cases c3:(l0.length:Int)=(l1.length:Int)
 ·rw [if_pos c3]at H
  have c3b0:((l0.length:Int) ==(l1.length:Int))=true:=beq_iff_eq.mpr c3
  have c3b1:((l0.length:Int) !=(l1.length:Int))=false:=bne_eq_false_iff_eq.mpr c3
  have c3b2:(l0.length == l1.length)=true:=by first|simpa using c3|(simp at c3 ⊢;omega)
  clear c3
  have H':=Qz.k H
  clear H
  go_enter Tryz.func30,Tryz.ntmps30
  go_wp2
  repeat(go_quiet (fail);try go_wp2)
  go_loopg [5,14] k (fun kq v5 v14 w'=>∃ (x5_1:Int) (x14_1:Int),v5=.int .u8 x5_1∧v14=.int .i64 x14_1∧Qz (hmac_Same.l0 kq l0 l1 x5_1 (l0.length:Int) x14_1=some r)∧Qz (kq≤k)∧Drawn0 w w')
  case atStart=>exact⟨(0),(0),(by first|rfl|(simp;done)|(simp [*];done)),(by first|rfl|(simp;done)|(simp [*];done)),H',⟨Nat.le_refl _⟩,by repeat(first|exact Drawn0.refl _|apply Drawn0.step)⟩
  case round=>
   clear H'
   try clear c1
   try clear p2
   try clear c3
   try clear c3b0
   try clear c3b1
   try clear c3b2
   obtain⟨x5_1,x14_1,rfl,rfl,HA,HK1,⟨m1,rfl⟩⟩:=hrel
   cases gk with
   |zero=>exact absurd HA.out (by simp [hmac_Same.l0])
   |succ k1=>
    have H:=HA.out
    clear HA
    simp only [hmac_Same.l0]at H
    by_cases c4:x14_1<(l0.length:Int)
    ·rw [if_pos c4]at H
     have c4b0:decide (x14_1<(l0.length:Int))=true:=decide_eq_true c4
     clear c4
     by_cases c5:0≤x14_1
     ·rw [if_pos c5]at H
      have c5b0:decide (0≤x14_1)=true:=decide_eq_true c5
      clear c5
      by_cases c6:x14_1<(l0.length:Int)
      ·rw [if_pos c6]at H
       have c6b0:decide (x14_1<(l0.length:Int))=true:=decide_eq_true c6
       clear c6
       by_cases c7:x14_1<(l1.length:Int)
       ·rw [if_pos c7]at H
        have c7b0:decide (x14_1<(l1.length:Int))=true:=decide_eq_true c7
        clear c7
        have H':=Qz.k H
        clear H
        have p103:0≤(x14_1:Int):=of_decide_eq_true (by first|(with_reducible assumption)|assumption)
        have q103:x14_1<(l0.length:Int):=of_decide_eq_true (by first|(with_reducible assumption)|assumption)
        obtain⟨ad103,e103,hx103_0⟩:=Kd.asz HR0.out x14_1 p103 q103
        cases e103
        replace p103:=eq_true p103
        replace q103:=eq_true q103
        have p104:0≤(x14_1:Int):=of_decide_eq_true (by first|(with_reducible assumption)|assumption)
        have q104:x14_1<(l1.length:Int):=of_decide_eq_true (by first|(with_reducible assumption)|assumption)
        obtain⟨ad104,e104,hx104_0⟩:=Kd.asz HR1.out x14_1 p104 q104
        cases e104
        replace p104:=eq_true p104
        replace q104:=eq_true q104
        go_wp2
        repeat(go_quiet (fail);try go_wp2)
        go_roundg k1
        case measure=>have:=HK1.out;omega
        case rel=>exact⟨(Go.bits .or .u8 x5_1 (Go.bits .xor .u8 (rd l0 x14_1) (rd l1 x14_1))),(wrap64 (x14_1+1)),(by first|rfl|(simp;done)|(simp [*];done)),(by first|rfl|(simp;done)|(simp [*];done)),H',⟨by have:=HK1.out;omega⟩,by repeat(first|exact Drawn0.refl _|apply Drawn0.step)⟩
       ·rw [if_neg c7]at H
        exact absurd H (by simp)
      ·rw [if_neg c6]at H
       exact absurd H (by simp)
     ·rw [if_neg c5]at H
      exact absurd H (by simp)
    ·rw [if_neg c4]at H
     have c4b0:decide (x14_1<(l0.length:Int))=false:=decide_eq_false c4
     clear c4
     obtain rfl:=Option.some.inj H
     go_wp2
     repeat(go_quiet (fail);try go_wp2)
     go_ret
     exact⟨by first|rfl|(simp;done)|(simp [*];done),by repeat(first|exact Drawn0.refl _|apply Drawn0.step)⟩
 ·rw [if_neg c3]at H
  have c3b0:((l0.length:Int) ==(l1.length:Int))=false:=beq_eq_false_iff_ne.mpr c3
  have c3b1:((l0.length:Int) !=(l1.length:Int))=true:=bne_iff_ne.mpr c3
  have c3b2:(l0.length == l1.length)=false:=by first|simpa using c3|(simp at c3 ⊢;omega)
  obtain rfl:=Option.some.inj H
  go_enter Tryz.func30,Tryz.ntmps30
  go_wp2
  repeat(go_quiet (fail);try go_wp2)
  go_ret
  exact⟨by first|rfl|(simp;done)|(simp [*];done),by repeat(first|exact Drawn0.refl _|apply Drawn0.step)⟩
def archive_stale.j0 : Nat→Bool→Int→List Int→List (S75)→List Int→Int→List Int→Option (Int)
 | 0,_,_,_,_,_,_,_=>none
 |k+1,x5,x106000,x106001,x106002,x106003,x107000,x107001=>if x5=true then(some 0)else(if x106000<x107000 then(some 6)else((hmac_Same.f k x106003 x107001).bind fun t108=>(if t108=true then(some 0)else(some 7))))
def archive_stale.f (k:Nat)(a0_0:Int)(l0_1:List Int)(l0_2:List (S75))(l0_3:List Int)(a1_0:Int)(l1_1:List Int):Option (Int):=(archive_trusts.f a1_0 l1_1).bind fun t107=>(if t107=true then(archive_stale.j0 k (decide (a0_0 > a1_0)) a0_0 l0_1 l0_2 l0_3 a1_0 l1_1)else(archive_stale.j0 k true a0_0 l0_1 l0_2 l0_3 a1_0 l1_1))
theorem archive_stale.atz : ∀ k,(∀ y0 y1 y2 y3 y4 y5 y6,LeO (archive_stale.j0 k y0 y1 y2 y3 y4 y5 y6) (archive_stale.j0 (k+1) y0 y1 y2 y3 y4 y5 y6))
 | 0=>fun _ _ _ _ _ _ _ r h=>by simp [archive_stale.j0]at h
 |k+1=>by
  have ih0:=archive_stale.atz k
  ·intro y0 y1 y2 y3 y4 y5 y6
   unfold archive_stale.j0
   repeat' first
   |(with_reducible exact ih0 _ _ _ _ _ _ _)
   |(with_reducible exact hmac_Same.mono _ _ _)
   |(with_reducible exact LeO.refl _)
   |(with_reducible exact LeO.none _)
   |(with_reducible refine LeO.ite ?_ ?_)
   |(with_reducible refine LeO.bind ?_ (fun _=>?_))
   |exact ih0 _ _ _ _ _ _ _
   |exact hmac_Same.mono _ _ _
   |exact LeO.none _
   |refine LeO.ite ?_ ?_
   |refine LeO.bind ?_ (fun _=>?_)
theorem archive_stale.mono : ∀ a0 a1 a2 a3 a4 a5 k,LeO (archive_stale.f k a0 a1 a2 a3 a4 a5) (archive_stale.f (k+1) a0 a1 a2 a3 a4 a5):=by
 intro a0 a1 a2 a3 a4 a5 k
 have ih0:=archive_stale.atz k
 unfold archive_stale.f
 repeat' first
   |(with_reducible exact ih0 _ _ _ _ _ _ _)
   |(with_reducible exact hmac_Same.mono _ _ _)
   |(with_reducible exact LeO.refl _)
   |(with_reducible exact LeO.none _)
   |(with_reducible refine LeO.ite ?_ ?_)
   |(with_reducible refine LeO.bind ?_ (fun _=>?_))
   |exact ih0 _ _ _ _ _ _ _
   |exact hmac_Same.mono _ _ _
   |exact LeO.none _
   |refine LeO.ite ?_ ?_
   |refine LeO.bind ?_ (fun _=>?_)
set_option maxHeartbeats 8000000 in
theorem archive_stale.calls (k:Nat)(a0_0:Int)(A0_1:Option Addr)(c0_1:Nat)(l0_1:List Int)(A0_2:Option Addr)(c0_2:Nat)(l0_2:List (S75))(A0_3:Option Addr)(c0_3:Nat)(l0_3:List Int)(a1_0:Int)(A1_1:Option Addr)(c1_1:Nat)(l1_1:List Int)(r:Int)(w:World)(hr0_1:Kd.C (Kd.int .u8) w A0_1 l0_1.length l0_1)(hc0_1:l0_1.length≤c0_1)(hr0_2:Kd.C k75 w A0_2 l0_2.length l0_2)(hc0_2:l0_2.length≤c0_2)(hr0_3:Kd.C (Kd.int .u8) w A0_3 l0_3.length l0_3)(hc0_3:l0_3.length≤c0_3)(hr1_1:Kd.C (Kd.int .u8) w A1_1 l1_1.length l1_1)(hc1_1:l1_1.length≤c1_1)(h:archive_stale.f k a0_0 l0_1 l0_2 l0_3 a1_0 l1_1=some r) :
  Calls Tryz.prog 29 #[.agg #[.int .u64 a0_0,.slice A0_1 l0_1.length c0_1,.slice A0_2 l0_2.length c0_2,.slice A0_3 l0_3.length c0_3],.agg #[.int .u64 a1_0,.slice A1_1 l1_1.length c1_1]] w fun e w'=>e=.returned (.int .i64 r)∧Below w.heap.size w w':=by
 have hu65:=Tryz.underlying65
 have hu29:=Tryz.underlying29
 have HR0_1:=Qz.k hr0_1
 have HC0_1:=Qz.k hc0_1
 clear hr0_1 hc0_1
 have HR0_2:=Qz.k hr0_2
 have HC0_2:=Qz.k hc0_2
 clear hr0_2 hc0_2
 have HR0_3:=Qz.k hr0_3
 have HC0_3:=Qz.k hc0_3
 clear hr0_3 hc0_3
 have HR1_1:=Qz.k hr1_1
 have HC1_1:=Qz.k hc1_1
 clear hr1_1 hc1_1
 have HB:=Qz.k (Below.refl w.heap.size w)
 have H:((archive_trusts.f a1_0 l1_1).bind fun t107=>(if t107=true then(archive_stale.j0 k (decide (a0_0 > a1_0)) a0_0 l0_1 l0_2 l0_3 a1_0 l1_1)else(archive_stale.j0 k true a0_0 l0_1 l0_2 l0_3 a1_0 l1_1)))=some r:=h
 clear h
 have HC3:=Qz.k H
 clear H
 go_enter Tryz.func29,Tryz.ntmps29
 go_upto_region 1 with(first|((with_reducible refine ahk (N:=2) rfl ?_);refine aik ?hg (N:=2) ?hd (cs:=#[.int .u64 a0_0,.slice A0_1 l0_1.length c0_1,.slice A0_2 l0_2.length c0_2,.slice A0_3 l0_3.length c0_3]) (t:=65) ?hr ?_;(case hd=>rfl);(case hg=>rfl);(case hr=>first|(go_simp;done)|(go_simp;rfl));intro gb105 hg w4 hbox hb;have n0_:=Qz.k (aaz au_ hb);have n1_:=Qz.k (hbox);have n2_:=Qz.k ((by rw [hg];exact(afq au_):w.heap.size≤gb105));have n3_:=Qz.k ((by rw [hg];exact(afq au_):w.heap.size≤gb105));clear HB;have HB:=n0_;have BK105:=n1_;have GW105:=n2_;have GE105:=n3_;clear n0_ n1_ n2_ n3_;clear hb hbox hg)|((with_reducible refine ahk (N:=3) rfl ?_);refine aik ?hg (N:=3) ?hd (cs:=#[.int .u64 a1_0,.slice A1_1 l1_1.length c1_1]) (t:=29) ?hr ?_;(case hd=>rfl);(case hg=>rfl);(case hr=>first|(go_simp;done)|(go_simp;rfl));intro gb106 hg w5 hbox hb;have n0_:=Qz.k (agz (g:=gb105) (o := .cells #[.int .u64 a0_0,.slice A0_1 l0_1.length c0_1,.slice A0_2 l0_2.length c0_2,.slice A0_3 l0_3.length c0_3] 65 (0,0)) (by(with_reducible repeat(first|refine aoq ?_ _|refine aoz ?_|refine aok ?_ _));exact BK105.out) hb);have n1_:=Qz.k (aaz (by repeat(first|(with_reducible first|exact HB.out|apply aaq|apply adz|apply aez|refine adq ?_ GE105.out)|exact HB.out)) hb);have n2_:=Qz.k (hbox);have n3_:=Qz.k ((by rw [hg];exact(afq (by repeat(first|(with_reducible first|exact HB.out|apply aaq|apply adz|apply aez|refine adq ?_ GE105.out)|exact HB.out))):w.heap.size≤gb106));have n4_:=Qz.k ((by rw [hg];exact(afq (by repeat(first|(with_reducible first|exact HB.out|apply aaq|apply adz|apply aez|refine adq ?_ GE105.out)|exact HB.out))):w.heap.size≤gb106));have n5_:=Qz.k ((by rw [hg];exact Nat.ne_of_lt (aQk (g:=gb105) (o := .cells #[.int .u64 a0_0,.slice A0_1 l0_1.length c0_1,.slice A0_2 l0_2.length c0_2,.slice A0_3 l0_3.length c0_3] 65 (0,0)) (by(with_reducible repeat(first|refine aoq ?_ _|refine aoz ?_|refine aok ?_ _));exact BK105.out)):gb105≠gb106));have n6_:=Qz.k ((by rw [hg];exact Nat.ne_of_gt (aQk (g:=gb105) (o := .cells #[.int .u64 a0_0,.slice A0_1 l0_1.length c0_1,.slice A0_2 l0_2.length c0_2,.slice A0_3 l0_3.length c0_3] 65 (0,0)) (by(with_reducible repeat(first|refine aoq ?_ _|refine aoz ?_|refine aok ?_ _));exact BK105.out)):gb106≠gb105));clear BK105;clear HB;have BK105:=n0_;have HB:=n1_;have BK106:=n2_;have GW106:=n3_;have GE106:=n4_;have NB105_106:=n5_;have NB106_105:=n6_;clear n0_ n1_ n2_ n3_ n4_ n5_ n6_;clear hb hbox hg))
 (try simp only [Act.put,List.setIfInBounds_toArray,List.set_cons_zero,List.set_cons_succ])
 go_cut [5] (fun v5 wc=>∃ (kq:Nat) (x5_2:Bool),v5=.bool x5_2∧Qz (archive_stale.j0 kq x5_2 a0_0 l0_1 l0_2 l0_3 a1_0 l1_1=some r)∧Qz (kq≤k)∧Qz (wc.heap[gb105]? = some (.cells #[.int .u64 a0_0,(.slice A0_1 l0_1.length c0_1),(.slice A0_2 l0_2.length c0_2),(.slice A0_3 l0_3.length c0_3)] 65 (0,0)))∧Qz (wc.heap[gb106]? = some (.cells #[.int .u64 a1_0,(.slice A1_1 l1_1.length c1_1)] 29 (0,0)))∧Qz (Below w.heap.size w wc))
 case first=>
  have H:=HC3.out
  clear HC3
  replace H:=Option.bind_eq_some_iff.mp H
  obtain⟨t107,A60,H⟩:=H
  replace H:(if t107=true then(archive_stale.j0 k (decide (a0_0 > a1_0)) a0_0 l0_1 l0_2 l0_3 a1_0 l1_1)else(archive_stale.j0 k true a0_0 l0_1 l0_2 l0_3 a1_0 l1_1))=some r:=H
  have A6:=Qz.k A60
  clear A60
  by_cases c7:t107=true
  ·subst c7
   have H1:(archive_stale.j0 k (decide (a0_0 > a1_0)) a0_0 l0_1 l0_2 l0_3 a1_0 l1_1)=some r:=by rw [if_pos rfl]at H;exact H
   clear H
   have H:=H1
   clear H1
   have H':=Qz.k H
   clear H
   have hnb8:=NB106_105.out
   have hnc8:=NB105_106.out
   have hcz9_0:w5.cell? ⟨gb106,0,none⟩=some (.int .u64 a1_0):=(aak BK106.out 0).trans rfl
   have hcz9_1:w5.cell? ⟨gb106,1,none⟩=some (.slice A1_1 l1_1.length c1_1):=(aak BK106.out 1).trans rfl
   have hfz9_0:=afk BK106.out 0
   have hfz9_1:=afk BK106.out 1
   go_wp2_with (first|((with_reducible refine aiz (f:=20) rfl ?_);refine asq (some 7) rfl rfl Tryz.func20 (by kernel_rfl) rfl #[.agg #[.int .u64 a1_0,.slice A1_1 l1_1.length c1_1]] rfl (by(try simp only [List.map_toArray,List.map_cons,List.map_nil]);first|done|rfl|(simp only [List.length_drop,List.length_take];rfl)) ?_;(with_reducible refine(archive_trusts.calls a1_0 _ _ l1_1 true _ ?side1 ?side2 A6.out).mono ?_);(case side1=>repeat(first|exact(Kd.acz HR1_1.out HB.out)|(with_reducible refine Kd.aqk ?_ _)|(with_reducible refine Kd.aqz ?_ _)|(with_reducible refine Kd.atq ?_)));(case side2=>exact HC1_1.out);rintro e w10 ⟨rfl,hb⟩;refine⟨_,rfl,?_⟩;have n0_:=Qz.k (agz (g:=gb105) (o := .cells #[.int .u64 a0_0,.slice A0_1 l0_1.length c0_1,.slice A0_2 l0_2.length c0_2,.slice A0_3 l0_3.length c0_3] 65 (0,0)) (by(with_reducible repeat(first|refine aoq ?_ _|refine aoz ?_|refine aok ?_ _));exact BK105.out) hb);have n1_:=Qz.k (agz (g:=gb106) (o := .cells #[.int .u64 a1_0,.slice A1_1 l1_1.length c1_1] 29 (0,0)) (by(with_reducible repeat(first|refine aoq ?_ _|refine aoz ?_|refine aok ?_ _));exact BK106.out) hb);have n2_:=Qz.k (aaz (by repeat(first|(with_reducible first|exact HB.out|apply aaq|apply adz|apply aez|refine adq ?_ GE105.out|refine adq ?_ GE106.out)|exact HB.out)) hb);clear BK105;clear BK106;clear HB;have BK105:=n0_;have BK106:=n1_;have HB:=n2_;clear n0_ n1_ n2_;(try clear hb);(try clear hb2);(try clear hk);(try clear hi);have hcz11_0:w10.cell? ⟨gb105,0,none⟩=some (.int .u64 a0_0):=(aak BK105.out 0).trans rfl;have hcz11_1:w10.cell? ⟨gb105,1,none⟩=some (.slice A0_1 l0_1.length c0_1):=(aak BK105.out 1).trans rfl;have hcz11_2:w10.cell? ⟨gb105,2,none⟩=some (.slice A0_2 l0_2.length c0_2):=(aak BK105.out 2).trans rfl;have hcz11_3:w10.cell? ⟨gb105,3,none⟩=some (.slice A0_3 l0_3.length c0_3):=(aak BK105.out 3).trans rfl;have hfz11_0:=afk BK105.out 0;have hfz11_1:=afk BK105.out 1;have hfz11_2:=afk BK105.out 2;have hfz11_3:=afk BK105.out 3;have hcz12_0:w10.cell? ⟨gb106,0,none⟩=some (.int .u64 a1_0):=(aak BK106.out 0).trans rfl;have hcz12_1:w10.cell? ⟨gb106,1,none⟩=some (.slice A1_1 l1_1.length c1_1):=(aak BK106.out 1).trans rfl;have hfz12_0:=afk BK106.out 0;have hfz12_1:=afk BK106.out 1))
   go_meet
   case rel=>exact⟨_,(decide (a0_0 > a1_0)),(by first|rfl|(simp;done)|(simp [*];done)),H',⟨by first|omega|exact Nat.le_refl _⟩,⟨by(with_reducible repeat(first|refine aoq ?_ _|refine aoz ?_|refine aok ?_ _));exact BK105.out⟩,⟨by(with_reducible repeat(first|refine aoq ?_ _|refine aoz ?_|refine aok ?_ _));exact BK106.out⟩,⟨by repeat(first|(with_reducible first|exact HB.out|apply aaq|apply adz|apply aez|refine adq ?_ GE105.out|refine adq ?_ GE106.out)|exact HB.out)⟩⟩
  ·replace c7:=Bool.eq_false_iff.mpr c7
   subst c7
   have H1:(archive_stale.j0 k true a0_0 l0_1 l0_2 l0_3 a1_0 l1_1)=some r:=by rw [if_neg (show ¬ (false=true)by decide)]at H;exact H
   clear H
   have H:=H1
   clear H1
   have H':=Qz.k H
   clear H
   have hnb13:=NB106_105.out
   have hnc13:=NB105_106.out
   have hcz14_0:w5.cell? ⟨gb106,0,none⟩=some (.int .u64 a1_0):=(aak BK106.out 0).trans rfl
   have hcz14_1:w5.cell? ⟨gb106,1,none⟩=some (.slice A1_1 l1_1.length c1_1):=(aak BK106.out 1).trans rfl
   have hfz14_0:=afk BK106.out 0
   have hfz14_1:=afk BK106.out 1
   go_wp2_with (first|((with_reducible refine aiz (f:=20) rfl ?_);refine asq (some 7) rfl rfl Tryz.func20 (by kernel_rfl) rfl #[.agg #[.int .u64 a1_0,.slice A1_1 l1_1.length c1_1]] rfl (by(try simp only [List.map_toArray,List.map_cons,List.map_nil]);first|done|rfl|(simp only [List.length_drop,List.length_take];rfl)) ?_;(with_reducible refine(archive_trusts.calls a1_0 _ _ l1_1 false _ ?side1 ?side2 A6.out).mono ?_);(case side1=>repeat(first|exact(Kd.acz HR1_1.out HB.out)|(with_reducible refine Kd.aqk ?_ _)|(with_reducible refine Kd.aqz ?_ _)|(with_reducible refine Kd.atq ?_)));(case side2=>exact HC1_1.out);rintro e w15 ⟨rfl,hb⟩;refine⟨_,rfl,?_⟩;have n0_:=Qz.k (agz (g:=gb105) (o := .cells #[.int .u64 a0_0,.slice A0_1 l0_1.length c0_1,.slice A0_2 l0_2.length c0_2,.slice A0_3 l0_3.length c0_3] 65 (0,0)) (by(with_reducible repeat(first|refine aoq ?_ _|refine aoz ?_|refine aok ?_ _));exact BK105.out) hb);have n1_:=Qz.k (agz (g:=gb106) (o := .cells #[.int .u64 a1_0,.slice A1_1 l1_1.length c1_1] 29 (0,0)) (by(with_reducible repeat(first|refine aoq ?_ _|refine aoz ?_|refine aok ?_ _));exact BK106.out) hb);have n2_:=Qz.k (aaz (by repeat(first|(with_reducible first|exact HB.out|apply aaq|apply adz|apply aez|refine adq ?_ GE105.out|refine adq ?_ GE106.out)|exact HB.out)) hb);clear BK105;clear BK106;clear HB;have BK105:=n0_;have BK106:=n1_;have HB:=n2_;clear n0_ n1_ n2_;(try clear hb);(try clear hb2);(try clear hk);(try clear hi)))
   go_meet
   case rel=>exact⟨_,(true),(by first|rfl|(simp;done)|(simp [*];done)),H',⟨by first|omega|exact Nat.le_refl _⟩,⟨by(with_reducible repeat(first|refine aoq ?_ _|refine aoz ?_|refine aok ?_ _));exact BK105.out⟩,⟨by(with_reducible repeat(first|refine aoq ?_ _|refine aoz ?_|refine aok ?_ _));exact BK106.out⟩,⟨by repeat(first|(with_reducible first|exact HB.out|apply aaq|apply adz|apply aez|refine adq ?_ GE105.out|refine adq ?_ GE106.out)|exact HB.out)⟩⟩
 case rest=>
  clear HC3
  try clear c1
  try clear c2
  try clear p2
  try clear c7
  try clear c8
  try clear c13
  try clear hcz11_0
  try clear hcz11_1
  try clear hcz11_2
  try clear hcz11_3
  try clear hcz12_0
  try clear hcz12_1
  try clear hcz14_0
  try clear hcz14_1
  try clear hcz9_0
  try clear hcz9_1
  try clear hfz11_0
  try clear hfz11_1
  try clear hfz11_2
  try clear hfz11_3
  try clear hfz12_0
  try clear hfz12_1
  try clear hfz14_0
  try clear hfz14_1
  try clear hfz9_0
  try clear hfz9_1
  obtain⟨kq,x5_2,rfl,HA,HJ2,BK105,BK106,HB⟩:=hcut
  cases kq with
  |zero=>exact absurd HA.out (by simp [archive_stale.j0])
  |succ kj2=>
   have H:=HA.out
   clear HA
   simp only [archive_stale.j0]at H
   by_cases c16:x5_2=true
   ·subst c16
    have H1:(some 0)=some r:=by rw [if_pos rfl]at H;exact H
    clear H
    have H:=H1
    clear H1
    obtain rfl:=Option.some.inj H
    go_wp2
    go_ret
    exact⟨by first|rfl|(simp [aek,aeq] <;> rfl)|(simp [*,aek,aeq] <;> rfl),by repeat(first|(with_reducible first|exact HB.out|apply aaq|apply adz|apply aez|refine adq ?_ GE105.out|refine adq ?_ GE106.out)|exact HB.out)⟩
   ·replace c16:=Bool.eq_false_iff.mpr c16
    subst c16
    have H1:(if a0_0<a1_0 then(some 6)else((hmac_Same.f kj2 l0_3 l1_1).bind fun t108=>(if t108=true then(some 0)else(some 7))))=some r:=by rw [if_neg (show ¬ (false=true)by decide)]at H;exact H
    clear H
    have H:=H1
    clear H1
    by_cases c17:a0_0<a1_0
    ·rw [if_pos c17]at H
     have c17b0:decide (a0_0<a1_0)=true:=decide_eq_true c17
     clear c17
     obtain rfl:=Option.some.inj H
     have hnb18:=NB105_106.out
     have hnc18:=NB106_105.out
     have hcz19_0:wc.cell? ⟨gb105,0,none⟩=some (.int .u64 a0_0):=(aak BK105.out 0).trans rfl
     have hcz19_1:wc.cell? ⟨gb105,1,none⟩=some (.slice A0_1 l0_1.length c0_1):=(aak BK105.out 1).trans rfl
     have hcz19_2:wc.cell? ⟨gb105,2,none⟩=some (.slice A0_2 l0_2.length c0_2):=(aak BK105.out 2).trans rfl
     have hcz19_3:wc.cell? ⟨gb105,3,none⟩=some (.slice A0_3 l0_3.length c0_3):=(aak BK105.out 3).trans rfl
     have hfz19_0:=afk BK105.out 0
     have hfz19_1:=afk BK105.out 1
     have hfz19_2:=afk BK105.out 2
     have hfz19_3:=afk BK105.out 3
     have hcz20_0:wc.cell? ⟨gb106,0,none⟩=some (.int .u64 a1_0):=(aak BK106.out 0).trans rfl
     have hcz20_1:wc.cell? ⟨gb106,1,none⟩=some (.slice A1_1 l1_1.length c1_1):=(aak BK106.out 1).trans rfl
     have hfz20_0:=afk BK106.out 0
     have hfz20_1:=afk BK106.out 1
     go_wp2
     go_ret
     exact⟨by first|rfl|(simp [aek,aeq] <;> rfl)|(simp [*,aek,aeq] <;> rfl),by repeat(first|(with_reducible first|exact HB.out|apply aaq|apply adz|apply aez|refine adq ?_ GE105.out|refine adq ?_ GE106.out)|exact HB.out)⟩
    ·rw [if_neg c17]at H
     have c17b0:decide (a0_0<a1_0)=false:=decide_eq_false c17
     clear c17
     replace H:=Option.bind_eq_some_iff.mp H
     obtain⟨t108,A210,H⟩:=H
     replace H:(if t108=true then(some 0)else(some 7))=some r:=H
     have A21:=Qz.k A210
     clear A210
     by_cases c22:t108=true
     ·subst c22
      have H1:(some 0)=some r:=by rw [if_pos rfl]at H;exact H
      clear H
      have H:=H1
      clear H1
      obtain rfl:=Option.some.inj H
      have hnb23:=NB105_106.out
      have hnc23:=NB106_105.out
      have hcz24_0:wc.cell? ⟨gb105,0,none⟩=some (.int .u64 a0_0):=(aak BK105.out 0).trans rfl
      have hcz24_1:wc.cell? ⟨gb105,1,none⟩=some (.slice A0_1 l0_1.length c0_1):=(aak BK105.out 1).trans rfl
      have hcz24_2:wc.cell? ⟨gb105,2,none⟩=some (.slice A0_2 l0_2.length c0_2):=(aak BK105.out 2).trans rfl
      have hcz24_3:wc.cell? ⟨gb105,3,none⟩=some (.slice A0_3 l0_3.length c0_3):=(aak BK105.out 3).trans rfl
      have hfz24_0:=afk BK105.out 0
      have hfz24_1:=afk BK105.out 1
      have hfz24_2:=afk BK105.out 2
      have hfz24_3:=afk BK105.out 3
      have hcz25_0:wc.cell? ⟨gb106,0,none⟩=some (.int .u64 a1_0):=(aak BK106.out 0).trans rfl
      have hcz25_1:wc.cell? ⟨gb106,1,none⟩=some (.slice A1_1 l1_1.length c1_1):=(aak BK106.out 1).trans rfl
      have hfz25_0:=afk BK106.out 0
      have hfz25_1:=afk BK106.out 1
      go_wp2_with (first|((with_reducible refine aiz (f:=30) rfl ?_);refine asq (some 27) rfl rfl Tryz.func30 (by kernel_rfl) rfl #[.slice A0_3 l0_3.length c0_3,.slice A1_1 l1_1.length c1_1] rfl (by(try simp only [List.map_toArray,List.map_cons,List.map_nil]);first|done|rfl|(simp only [List.length_drop,List.length_take];rfl)) ?_;(with_reducible refine(hmac_Same.calls kj2 _ _ l0_3 _ _ l1_1 true _ ?side1 ?side2 ?side3 ?side4 A21.out).mono ?_);(case side1=>repeat(first|exact(Kd.acz HR0_3.out HB.out)|(with_reducible refine Kd.aqk ?_ _)|(with_reducible refine Kd.aqz ?_ _)|(with_reducible refine Kd.atq ?_)));(case side2=>exact HC0_3.out);(case side3=>repeat(first|exact(Kd.acz HR1_1.out HB.out)|(with_reducible refine Kd.aqk ?_ _)|(with_reducible refine Kd.aqz ?_ _)|(with_reducible refine Kd.atq ?_)));(case side4=>exact HC1_1.out);rintro e w' ⟨rfl,⟨nd,rfl⟩⟩;refine⟨_,rfl,?_⟩))
      go_ret
      exact⟨by first|rfl|(simp [aek,aeq] <;> rfl)|(simp [*,aek,aeq] <;> rfl),by repeat(first|(with_reducible first|exact HB.out|apply aaq|apply adz|apply aez|refine adq ?_ GE105.out|refine adq ?_ GE106.out)|exact HB.out)⟩
     ·replace c22:=Bool.eq_false_iff.mpr c22
      subst c22
      have H1:(some 7)=some r:=by rw [if_neg (show ¬ (false=true)by decide)]at H;exact H
      clear H
      have H:=H1
      clear H1
      obtain rfl:=Option.some.inj H
      have hnb26:=NB105_106.out
      have hnc26:=NB106_105.out
      have hcz27_0:wc.cell? ⟨gb105,0,none⟩=some (.int .u64 a0_0):=(aak BK105.out 0).trans rfl
      have hcz27_1:wc.cell? ⟨gb105,1,none⟩=some (.slice A0_1 l0_1.length c0_1):=(aak BK105.out 1).trans rfl
      have hcz27_2:wc.cell? ⟨gb105,2,none⟩=some (.slice A0_2 l0_2.length c0_2):=(aak BK105.out 2).trans rfl
      have hcz27_3:wc.cell? ⟨gb105,3,none⟩=some (.slice A0_3 l0_3.length c0_3):=(aak BK105.out 3).trans rfl
      have hfz27_0:=afk BK105.out 0
      have hfz27_1:=afk BK105.out 1
      have hfz27_2:=afk BK105.out 2
      have hfz27_3:=afk BK105.out 3
      have hcz28_0:wc.cell? ⟨gb106,0,none⟩=some (.int .u64 a1_0):=(aak BK106.out 0).trans rfl
      have hcz28_1:wc.cell? ⟨gb106,1,none⟩=some (.slice A1_1 l1_1.length c1_1):=(aak BK106.out 1).trans rfl
      have hfz28_0:=afk BK106.out 0
      have hfz28_1:=afk BK106.out 1
      go_wp2_with (first|((with_reducible refine aiz (f:=30) rfl ?_);refine asq (some 27) rfl rfl Tryz.func30 (by kernel_rfl) rfl #[.slice A0_3 l0_3.length c0_3,.slice A1_1 l1_1.length c1_1] rfl (by(try simp only [List.map_toArray,List.map_cons,List.map_nil]);first|done|rfl|(simp only [List.length_drop,List.length_take];rfl)) ?_;(with_reducible refine(hmac_Same.calls kj2 _ _ l0_3 _ _ l1_1 false _ ?side1 ?side2 ?side3 ?side4 A21.out).mono ?_);(case side1=>repeat(first|exact(Kd.acz HR0_3.out HB.out)|(with_reducible refine Kd.aqk ?_ _)|(with_reducible refine Kd.aqz ?_ _)|(with_reducible refine Kd.atq ?_)));(case side2=>exact HC0_3.out);(case side3=>repeat(first|exact(Kd.acz HR1_1.out HB.out)|(with_reducible refine Kd.aqk ?_ _)|(with_reducible refine Kd.aqz ?_ _)|(with_reducible refine Kd.atq ?_)));(case side4=>exact HC1_1.out);rintro e w' ⟨rfl,⟨nd,rfl⟩⟩;refine⟨_,rfl,?_⟩))
      go_ret
      exact⟨by first|rfl|(simp [aek,aeq] <;> rfl)|(simp [*,aek,aeq] <;> rfl),by repeat(first|(with_reducible first|exact HB.out|apply aaq|apply adz|apply aez|refine adq ?_ GE105.out|refine adq ?_ GE106.out)|exact HB.out)⟩
mutual
def cursor_Fix.j0 : Nat→Int→Int→Bool→Option (List Int)
 | 0,_,_,_=>none
 |k+1,x0,x1,x12=>if x12=true then(some ([]:List Int))else(if 0≤x1 then(if(x1:Int).toNat≤281474976710656 then((some (List.replicate (x1:Int).toNat 0:List Int)).bind fun y109=>(cursor_Fix.l0 k x0 x1 y109 (y109.length:Int) 0))else(none))else(none))
def cursor_Fix.l0 : Nat→Int→Int→List Int→Int→Int→Option (List Int)
 | 0,_,_,_,_,_=>none
 |k+1,x0,x1,x5,x16,x17=>if x17<x16 then(if 0≤(wrap64 (8*x17))then(if 0≤(wrap64 ((wrap64 (x1-1))-x17))then(if(wrap64 ((wrap64 (x1-1))-x17))<(x5.length:Int)then(cursor_Fix.l0 k x0 x1 (x5.set ((wrap64 ((wrap64 (x1-1))-x17)):Int).toNat ((shr .u64 x0 (wrap64 (8*x17)))%256)) x16 (wrap64 (x17+1)))else(none))else(none))else(none))else(some x5)
end
def cursor_Fix.f (k:Nat)(a0:Int)(a1:Int):Option (List Int):=if a1<0 then(cursor_Fix.j0 k a0 a1 true)else(cursor_Fix.j0 k a0 a1 (decide (a1 > 8)))
theorem cursor_Fix.atz : ∀ k,(∀ y0 y1 y2,LeO (cursor_Fix.j0 k y0 y1 y2) (cursor_Fix.j0 (k+1) y0 y1 y2))∧(∀ y0 y1 y2 y3 y4,LeO (cursor_Fix.l0 k y0 y1 y2 y3 y4) (cursor_Fix.l0 (k+1) y0 y1 y2 y3 y4))
 | 0=>⟨fun _ _ _ r h=>by simp [cursor_Fix.j0]at h,fun _ _ _ _ _ r h=>by simp [cursor_Fix.l0]at h⟩
 |k+1=>by
  obtain⟨ih0,ih1⟩:=cursor_Fix.atz k
  refine⟨?_,?_⟩
  ·intro y0 y1 y2
   unfold cursor_Fix.j0
   repeat' first
   |(with_reducible exact ih0 _ _ _)
   |(with_reducible exact ih1 _ _ _ _ _)
   |(with_reducible exact LeO.refl _)
   |(with_reducible exact LeO.none _)
   |(with_reducible refine LeO.ite ?_ ?_)
   |(with_reducible refine LeO.bind ?_ (fun _=>?_))
   |exact ih0 _ _ _
   |exact ih1 _ _ _ _ _
   |exact LeO.none _
   |refine LeO.ite ?_ ?_
   |refine LeO.bind ?_ (fun _=>?_)
  ·intro y0 y1 y2 y3 y4
   unfold cursor_Fix.l0
   repeat' first
   |(with_reducible exact ih0 _ _ _)
   |(with_reducible exact ih1 _ _ _ _ _)
   |(with_reducible exact LeO.refl _)
   |(with_reducible exact LeO.none _)
   |(with_reducible refine LeO.ite ?_ ?_)
   |(with_reducible refine LeO.bind ?_ (fun _=>?_))
   |exact ih0 _ _ _
   |exact ih1 _ _ _ _ _
   |exact LeO.none _
   |refine LeO.ite ?_ ?_
   |refine LeO.bind ?_ (fun _=>?_)
theorem cursor_Fix.mono : ∀ a0 a1 k,LeO (cursor_Fix.f k a0 a1) (cursor_Fix.f (k+1) a0 a1):=by
 intro a0 a1 k
 obtain⟨ih0,ih1⟩:=cursor_Fix.atz k
 unfold cursor_Fix.f
 repeat' first
   |(with_reducible exact ih0 _ _ _)
   |(with_reducible exact ih1 _ _ _ _ _)
   |(with_reducible exact LeO.refl _)
   |(with_reducible exact LeO.none _)
   |(with_reducible refine LeO.ite ?_ ?_)
   |(with_reducible refine LeO.bind ?_ (fun _=>?_))
   |exact ih0 _ _ _
   |exact ih1 _ _ _ _ _
   |exact LeO.none _
   |refine LeO.ite ?_ ?_
   |refine LeO.bind ?_ (fun _=>?_)
set_option maxHeartbeats 8000000 in
theorem cursor_Fix.calls (k:Nat)(a0:Int)(a1:Int)(r:List Int)(w:World)(h:cursor_Fix.f k a0 a1=some r) :
  Calls Tryz.prog 96 #[.int .u64 a0,.int .i64 a1] w fun e w'=>∃ v0_:Value,e=.returned (v0_)∧Kd.R (Kd.int .u8) 5 w' w.heap.size (fun _=>True) v0_ r∧Below w.heap.size w w':=by
 have HB:=Qz.k (Below.refl w.heap.size w)
 have H:(if a1<0 then(cursor_Fix.j0 k a0 a1 true)else(cursor_Fix.j0 k a0 a1 (decide (a1 > 8))))=some r:=h
 clear h
 have HC3:=Qz.k H
 clear H
 go_enter Tryz.func96,Tryz.ntmps96
 go_upto_region 1 with(fail)
 go_cut [12] (fun v12 wc=>∃ (kq:Nat) (x12_2:Bool),v12=.bool x12_2∧Qz (cursor_Fix.j0 kq a0 a1 x12_2=some r)∧Qz (kq≤k)∧Qz (Below w.heap.size w wc))
 case first=>
  have H:=HC3.out
  clear HC3
  by_cases c4:a1<0
  ·rw [if_pos c4]at H
   have c4b0:decide (a1<0)=true:=decide_eq_true c4
   clear c4
   (first|rw [c4b0]|(simp only [abq,abk];rw [c4b0])|skip)
   have H':=Qz.k H
   clear H
   go_wp2
   go_meet
   case rel=>exact⟨_,(true),(by first|rfl|(simp;done)|(simp [*];done)),H',⟨by first|omega|exact Nat.le_refl _⟩,⟨au_⟩⟩
  ·rw [if_neg c4]at H
   have c4b0:decide (a1<0)=false:=decide_eq_false c4
   clear c4
   (first|rw [c4b0]|(simp only [abq,abk];rw [c4b0])|skip)
   have H':=Qz.k H
   clear H
   go_wp2
   go_meet
   case rel=>exact⟨_,(decide (a1 > 8)),(by first|rfl|(simp;done)|(simp [*];done)),H',⟨by first|omega|exact Nat.le_refl _⟩,⟨au_⟩⟩
 case rest=>
  clear HC3
  try clear p2
  try clear c4
  try clear c4b0
  obtain⟨kq,x12_2,rfl,HA,HJ2,HB⟩:=hcut
  cases kq with
  |zero=>exact absurd HA.out (by simp [cursor_Fix.j0])
  |succ kj2=>
   have H:=HA.out
   clear HA
   simp only [cursor_Fix.j0]at H
   by_cases c5:x12_2=true
   ·subst c5
    have H1:(some ([]:List Int))=some r:=by rw [if_pos rfl]at H;exact H
    clear H
    have H:=H1
    clear H1
    obtain rfl:=Option.some.inj H
    go_wp2
    go_ret
    exact⟨_,by first|rfl|(simp [aek,aeq] <;> rfl)|(simp [*,aek,aeq] <;> rfl),by first|exact Kd.ayz _ _ _ _ _|exact Kd.baz _ _ _ _ _|exact Kd.a9z _ _ _ _ _|exact Kd.a9k _ _ _ _ _|exact Kd.a9q _ _ _ _ _,au_⟩
   ·replace c5:=Bool.eq_false_iff.mpr c5
    subst c5
    have H1:(if 0≤a1 then(if(a1:Int).toNat≤281474976710656 then((some (List.replicate (a1:Int).toNat 0:List Int)).bind fun y109=>(cursor_Fix.l0 kj2 a0 a1 y109 (y109.length:Int) 0))else(none))else(none))=some r:=by rw [if_neg (show ¬ (false=true)by decide)]at H;exact H
    clear H
    have H:=H1
    clear H1
    by_cases c6:0≤a1
    ·rw [if_pos c6]at H
     have c6b0:=eq_true c6
     have c6b1:decide (0≤a1)=true:=decide_eq_true c6
     clear c6
     by_cases c7:(a1:Int).toNat≤281474976710656
     ·rw [if_pos c7]at H
      have c7b0:=eq_true c7
      have c7b1:decide ((a1:Int).toNat≤281474976710656)=true:=decide_eq_true c7
      clear c7
      obtain⟨y109,hy109⟩:∃ y_:List Int,y_=(List.replicate (a1:Int).toNat 0):=⟨_,rfl⟩
      replace H:(cursor_Fix.l0 kj2 a0 a1 y109 (y109.length:Int) 0)=some r:=by first|(rw [hy109];with_reducible exact H)|(have H2_:=(Option.bind_some _ _).symm.trans H;rw [hy109];with_reducible exact H2_)|(have H2_:=(Option.bind_some _ _).symm.trans H;with_reducible exact H2_)|with_reducible exact H|(rw [hy109];exact H)|exact H
      have Ny109:=Qz.k hy109
      clear hy109
      have H':=Qz.k H
      clear H
      go_wp2_with (first|((with_reducible refine ahk (N:=14) rfl ?_);refine Kd.bSq (Kd.int .u8) _ 5 rfl (N:=14) rfl 27 _ _ rfl a1 rfl rfl Tryz.underlying27 (.int .u8 0) 1 info5 rfl (by decide) (by omega) 0 (ok:=fun _=>True) (okp:=fun _=>True) rfl (fun _ hk=>hk) trivial (of_decide_eq_true (by first|(with_reducible assumption)|assumption)) (Nat.le_trans (Nat.mul_le_mul_right _ (of_decide_eq_true (by first|(with_reducible assumption)|assumption):a1.toNat≤281474976710656)) (by omega)) (Below.refl _ _) (Nat.le_refl _) ?_;intro v110 w8 ho9 hb hg_ hnew_;clear hg_ hnew_;(first|rw [←Ny109.out]at ho9|(simp only [Int.reduceToNat]at ho9;rw [←Ny109.out]at ho9));have n0_:=Qz.k (Kd.aiq ho9 (afq au_));have n1_:=Qz.k (aaz au_ hb);clear HB;have HO111:=n0_;have HB:=n1_;clear n0_ n1_;clear hb ho9;obtain⟨Ao10,co10,eo10⟩:=Kd.afz HO111.out;subst eo10))
      go_loopg [17] kj2 (fun kq v17 w'=>∃ (x5_2:List Int) (x17_2:Int),v17=.int .i64 x17_2∧Qz (cursor_Fix.l0 kq a0 a1 x5_2 (y109.length:Int) x17_2=some r)∧Qz (kq≤kj2)∧Qz (Kd.R (Kd.int .u8) 5 w' w.heap.size (fun _=>True) (.slice Ao10 y109.length co10) x5_2)∧Qz (Below w.heap.size w w'))
      case atStart=>exact⟨(y109),(0),(by first|rfl|(simp;done)|(simp [*];done)),H',⟨Nat.le_refl _⟩,⟨by(with_reducible repeat(first|apply Kd.akq|apply Kd.akk|apply Kd.amz));exact HO111.out⟩,⟨au_⟩⟩
      case round=>
       clear H'
       try clear p2
       try clear c4
       try clear c4b0
       try clear c5
       try clear c6
       try clear c6b0
       try clear c6b1
       try clear c7
       try clear c7b0
       try clear c7b1
       try clear c9
       try clear p2
       obtain⟨x5_2,x17_2,rfl,HA,HK2,HO_5,HB⟩:=hrel
       have hl5_2:=(Kd.ack HO_5.out).1
       rw [hl5_2]at HO_5
       (try simp only [hl5_2])
       cases gk with
       |zero=>exact absurd HA.out (by simp [cursor_Fix.l0])
       |succ k2=>
        have H:=HA.out
        clear HA
        simp only [cursor_Fix.l0]at H
        by_cases c11:x17_2<(y109.length:Int)
        ·rw [if_pos c11]at H
         have c11b0:decide (x17_2<(y109.length:Int))=true:=decide_eq_true c11
         (try rw [hl5_2]at c11b0)
         clear c11
         obtain⟨ji12,hji12⟩:∃ j_:Int,(wrap64 (8*x17_2))=j_:=⟨_,rfl⟩
         replace H:(if 0≤(ji12)then(if 0≤(wrap64 ((wrap64 (a1-1))-x17_2))then(if(wrap64 ((wrap64 (a1-1))-x17_2))<(x5_2.length:Int)then(cursor_Fix.l0 k2 a0 a1 (x5_2.set ((wrap64 ((wrap64 (a1-1))-x17_2)):Int).toNat ((shr .u64 a0 (ji12))%256)) (y109.length:Int) (wrap64 (x17_2+1)))else(none))else(none))else(none))=some r:=by first|(rw [hji12]at H;exact H)|(simp only [hji12]at H ⊢;exact H)
         have hji12w:(IntKind.i64.wrap (8*x17_2))=ji12:=(abq _).trans hji12
         by_cases c13:0≤(ji12)
         ·rw [if_pos c13]at H
          have c13b0:=eq_true c13
          have c13b1:decide (0≤(ji12))=true:=decide_eq_true c13
          clear c13
          obtain⟨ji14,hji14⟩:∃ j_:Int,(shr .u64 a0 (ji12))=j_:=⟨_,rfl⟩
          replace H:(if 0≤(wrap64 ((wrap64 (a1-1))-x17_2))then(if(wrap64 ((wrap64 (a1-1))-x17_2))<(x5_2.length:Int)then(cursor_Fix.l0 k2 a0 a1 (x5_2.set ((wrap64 ((wrap64 (a1-1))-x17_2)):Int).toNat ((ji14)%256)) (y109.length:Int) (wrap64 (x17_2+1)))else(none))else(none))=some r:=by first|(rw [hji14]at H;exact H)|(simp only [hji14]at H ⊢;exact H)
          have hji14_:(a0/2 ^ min (ji12).toNat 64)=ji14:=hji14
          have hji14z:(ji12)≤64→(a0/2 ^ (ji12).toNat)=ji14:=bHq hji14
          obtain⟨ji15,hji15⟩:∃ j_:Int,(wrap64 ((wrap64 (a1-1))-x17_2))=j_:=⟨_,rfl⟩
          replace H:(if 0≤(ji15)then(if(ji15)<(x5_2.length:Int)then(cursor_Fix.l0 k2 a0 a1 (x5_2.set ((ji15):Int).toNat ((ji14)%256)) (y109.length:Int) (wrap64 (x17_2+1)))else(none))else(none))=some r:=by first|(rw [hji15]at H;exact H)|(simp only [hji15]at H ⊢;exact H)
          have hji15w:(IntKind.i64.wrap ((wrap64 (a1-1))-x17_2))=ji15:=(abq _).trans hji15
          by_cases c16:0≤(ji15)
          ·rw [if_pos c16]at H
           have c16b0:decide (0≤(ji15))=true:=decide_eq_true c16
           clear c16
           by_cases c17:(ji15)<(x5_2.length:Int)
           ·rw [if_pos c17]at H
            have c17b0:decide ((ji15)<(x5_2.length:Int))=true:=decide_eq_true c17
            clear c17
            obtain⟨y112,hy112⟩:∃ y_:List Int,y_=(x5_2.set ((ji15):Int).toNat ((ji14)%256)):=⟨_,rfl⟩
            replace H:(cursor_Fix.l0 k2 a0 a1 y112 (y109.length:Int) (wrap64 (x17_2+1)))=some r:=by first|(rw [hy112];with_reducible exact H)|(have H2_:=(Option.bind_some _ _).symm.trans H;rw [hy112];with_reducible exact H2_)|(have H2_:=(Option.bind_some _ _).symm.trans H;with_reducible exact H2_)|with_reducible exact H|(rw [hy112];exact H)|exact H
            have Ny112:=Qz.k hy112
            clear hy112
            have H':=Qz.k H
            clear H
            have p18:0≤((ji15):Int):=of_decide_eq_true (by first|(with_reducible assumption)|assumption)
            have q18:((ji15):Int)<((x5_2.length:Int):Int):=of_decide_eq_true (by first|(with_reducible assumption)|assumption)
            obtain⟨go18,co18,eo18,gb18,gl18,cl18,HG18⟩:=Kd.bjz HO_5.out (by omega)
            (first|cases eo18|(injection eo18 with ea_ en_ ec_;(first|subst ea_|(injection ea_ with ea_;subst ea_));subst ec_;clear en_))
            have GB18:=Qz.k gb18
            have GG18:=Qz.k HG18
            clear gb18 gl18 HG18
            obtain⟨hx18_0,hf18_0⟩:=Kd.aUq 0 HO_5.out ((ji15):Int) p18 q18
            replace p18:=eq_true p18
            replace q18:=eq_true q18
            have HP19:=Kd.R_putg HO_5.out ((ji15):Int) ((ji14)%256)
            go_wp2_with (first|((with_reducible refine bzz (t:=5) (p:=30) rfl ?_);refine bkk (t:=5) (p:=30) (v:=?vo_w20) (w1:=(wr.setCell ⟨go18,((ji15):Int).toNat,none⟩ (.int .u8 ((ji14)%256)))) ?hg ?ho ?hn ?hr ?_;(case ho=>rfl);(case hg=>rfl);(case hn=>rfl);(case hr=>first|(go_simp;done)|(go_simp;rfl));intro w20 hw;have hg:wr.grownBy w20 (some go18):=(by rw [hw];exact HP19.2);have hp_:Kd.R (Kd.int .u8) 5 w20 w.heap.size (fun _=>True) (.slice (some ⟨go18,0,none⟩) x5_2.length co10) y112:=(by rw [hw,Ny112.out];exact HP19.1);clear HP19;have n0_:=Qz.k (hp_);have n1_:=Qz.k ((by rw [hw];exact adq (HB.out) GB18.out:Below w.heap.size w w20));clear HO_5;clear HB;have HO_5:=n0_;have HB:=n1_;clear n0_ n1_;clear hg hw hp_))
            (try simp only [←hl5_2])
            go_roundg k2
            case measure=>have:=HJ2.out;have:=HK2.out;omega
            case rel=>exact⟨(y112),(wrap64 (x17_2+1)),(by first|rfl|(simp;done)|(simp [*];done)),H',⟨by have:=HJ2.out;have:=HK2.out;omega⟩,⟨by(try simp only [hl5_2]);(with_reducible repeat(first|apply Kd.akq|apply Kd.akk|apply Kd.amz));exact HO_5.out⟩,⟨au_⟩⟩
           ·rw [if_neg c17]at H
            exact absurd H (by simp)
          ·rw [if_neg c16]at H
           exact absurd H (by simp)
         ·rw [if_neg c13]at H
          exact absurd H (by simp)
        ·rw [if_neg c11]at H
         have c11b0:decide (x17_2<(y109.length:Int))=false:=decide_eq_false c11
         (try rw [hl5_2]at c11b0)
         clear c11
         obtain rfl:=Option.some.inj H
         go_wp2
         go_ret
         exact⟨_,by first|rfl|(simp [aek,aeq] <;> rfl)|(simp [*,aek,aeq] <;> rfl),by(with_reducible repeat(first|apply Kd.akq|apply Kd.akk|apply Kd.amz));exact HO_5.out,au_⟩
     ·rw [if_neg c7]at H
      exact absurd H (by simp)
    ·rw [if_neg c6]at H
     exact absurd H (by simp)
def slices_Clone_byte_byte.f (l0:List Int):Option (List Int):=(some (([]:List Int):List Int)).bind fun y113=>(if y113.length+l0.length<140737488355328 then(some (y113++l0))else(none))
set_option maxHeartbeats 8000000 in
theorem slices_Clone_byte_byte.bzk (A0_:Addr)(c0:Nat)(l0:List Int)(r:List Int)(w:World)(hr0:Kd.C (Kd.int .u8) w (some A0_) l0.length l0)(hc0:l0.length≤c0)(h:slices_Clone_byte_byte.f l0=some r) :
  Calls Tryz.prog 22 #[.slice (some A0_) l0.length c0] w fun e w'=>∃ v0_:Value,e=.returned (v0_)∧Kd.R (Kd.int .u8) 5 w' w.heap.size (fun _=>True) v0_ r∧Below w.heap.size w w':=by
 have qnil:∀ (w:World) (a:Option Addr) (n c n' c':Nat),(binOp .eql 27 (.slice a n c) (.slice none n' c')).run Tryz.prog w=.ok (.bool a.isNone) w:=fun w a n c n' c'=>Lib.run_eql_slice_nil w _ _ a n c n' c' Tryz.underlying27
 have HR0:=Qz.k hr0
 have HC0:=Qz.k hc0
 clear hr0 hc0
 have HB:=Qz.k (Below.refl w.heap.size w)
 have H:((some (([]:List Int):List Int)).bind fun y113=>(if y113.length+l0.length<140737488355328 then(some (y113++l0))else(none)))=some r:=h
 clear h
 obtain⟨y113,hy113⟩:∃ y_:List Int,y_=(([]:List Int)):=⟨_,rfl⟩
 replace H:(if y113.length+l0.length<140737488355328 then(some (y113++l0))else(none))=some r:=by first|(rw [hy113];with_reducible exact H)|(have H2_:=(Option.bind_some _ _).symm.trans H;rw [hy113];with_reducible exact H2_)|(have H2_:=(Option.bind_some _ _).symm.trans H;with_reducible exact H2_)|with_reducible exact H|(rw [hy113];exact H)|exact H
 have Ny113:=Qz.k hy113
 clear hy113
 by_cases c2:y113.length+l0.length<140737488355328
 ·rw [if_pos c2]at H
  have LMc2:=Qz.k c2
  clear c2
  obtain⟨y116,hy116⟩:∃ y_:List Int,y_=(y113++l0):=⟨_,rfl⟩
  replace H:(some y116)=some r:=by first|(rw [hy116];with_reducible exact H)|(have H2_:=(Option.bind_some _ _).symm.trans H;rw [hy116];with_reducible exact H2_)|(have H2_:=(Option.bind_some _ _).symm.trans H;with_reducible exact H2_)|with_reducible exact H|(rw [hy116];exact H)|exact H
  have Ny116:=Qz.k hy116
  clear hy116
  obtain rfl:=Option.some.inj H
  go_enter Tryz.func22,Tryz.ntmps22
  go_wp2_with (first|((with_reducible refine ahk (N:=5) rfl ?_);refine Kd.bwz (Kd.int .u8) _ 5 ?hg (N:=5) ?hd (xs:=([]:List Int)) (inner:=[]) (ok:=fun _=>True) (okp:=fun _=>True) ?hr ?hp (fun _ hk=>hk) trivial (Below.refl _ _) (Nat.le_refl _) (by simp) ?_;(case hd=>rfl);(case hg=>rfl);(case hr=>first|(go_simp;done)|(go_simp;rfl));(case hp=>exact(Reps.none _ _));intro v114 w3 ho4 hb hg_ hnew_;clear hg_ hnew_;(first|rw [←Ny113.out]at ho4|(simp only [Int.reduceToNat]at ho4;rw [←Ny113.out]at ho4));have n0_:=Qz.k (Kd.aiq ho4 (afq au_));have n1_:=Qz.k (aaz au_ hb);clear HB;have HO115:=n0_;have HB:=n1_;clear n0_ n1_;clear hb ho4)|((with_reducible refine agk (b := .append) (xs:=#[.tmp 5,.tmp 6]) rfl ?_);at_builtin;refine Kd.ahq (Kd.int .u8) (w0:=w) w.heap.size rfl (.tmp 5) (.tmp 6) 27 5 (.int .u8 0) 1 rfl Tryz.underlying27 info5 rfl (by decide) (by omega) v114 y113 l0 _ _ _ (fun _=>True) (fun _=>False) rfl rfl ?aO ?aR (fun _ _ h=>h) (fun _ h=>h.elim) ?aF ?aB ?aS ?aL ?_;(case aR=>repeat(first|exact(Kd.acz HR0.out HB.out)|(with_reducible refine Kd.aqk ?_ _)|(with_reducible refine Kd.aqz ?_ _)|(with_reducible refine Kd.atq ?_)));(case aB=>exact au_);(case aF=>exact(fun _ _=>trivial));(case aO=>exact(al_ HO115.out));(case aS=>exact(afq au_));(case aL=>have:=LMc2.out;omega);intro v117 w5 ho hb hg hat;rw [←Ny116.out]at ho;have n0_:=Qz.k (hb);have n1_:=Qz.k (ho);clear HB;clear HO115;have HB:=n0_;have HO118:=n1_;clear n0_ n1_;clear ho hb hg hat))
  go_ret
  exact⟨_,by first|rfl|(simp [aek,aeq] <;> rfl)|(simp [*,aek,aeq] <;> rfl),by(with_reducible repeat(first|apply Kd.akq|apply Kd.akk|apply Kd.amz));exact HO118.out,au_⟩
 ·rw [if_neg c2]at H
  exact absurd H (by simp)
set_option maxHeartbeats 8000000 in
theorem slices_Clone_byte_byte.calls (A0:Option Addr)(c0:Nat)(l0:List Int)(r:List Int)(w:World)(hr0:Kd.C (Kd.int .u8) w A0 l0.length l0)(hc0:l0.length≤c0)(h:slices_Clone_byte_byte.f l0=some r) :
  Calls Tryz.prog 22 #[.slice A0 l0.length c0] w fun e w'=>∃ v0_:Value,e=.returned (v0_)∧Kd.R (Kd.int .u8) 5 w' w.heap.size (fun _=>True) v0_ r∧Below w.heap.size w w':=by
 cases A0 with
 |some a=>exact slices_Clone_byte_byte.bzk a c0 l0 r w hr0 hc0 h
 |none=>
  have hl:l0=[]:=by
   rcases Nat.eq_zero_or_pos l0.length with h0|h0
   ·exact List.eq_nil_of_length_eq_zero h0
   ·obtain⟨ad,he,_⟩:=hr0.2.2 h0
    cases he
  subst hl
  have hrr:r=[]:=by
   simp [slices_Clone_byte_byte.f]at h
   first|exact h|exact h.symm
  subst hrr
  have qnil:∀ (w:World) (a:Option Addr) (n c n' c':Nat),(binOp .eql 27 (.slice a n c) (.slice none n' c')).run Tryz.prog w=.ok (.bool a.isNone) w:=fun w a n c n' c'=>Lib.run_eql_slice_nil w _ _ a n c n' c' Tryz.underlying27
  clear hr0 hc0 h
  go_enter Tryz.func22,Tryz.ntmps22
  go_wp2
  go_ret
  exact⟨_,rfl,Kd.ayz _ _ _ _ _,Below.refl _ _⟩
def varint_with.f (l0:List Int)(l1:List Int):Option (List Int):=if l0.length+l1.length<140737488355328 then(some (l0++l1))else(none)
set_option maxHeartbeats 8000000 in
theorem varint_with.calls (P0_:Nat→Prop)(u9000_:Value)(l0:List Int)(A1:Option Addr)(c1:Nat)(l1:List Int)(r:List Int)(w0 w:World)(hB:Below w0.heap.size w0 w)(ho0:Kd.R (Kd.int .u8) 5 w w0.heap.size P0_ u9000_ l0)(hr1:∀ W_,Kept w W_ (fun k_=>P0_ k_)→Kd.C (Kd.int .u8) W_ A1 l1.length l1)(hc1:l1.length≤c1)(h:varint_with.f l0 l1=some r) :
  Calls Tryz.prog 85 #[u9000_,.slice A1 l1.length c1] w fun e w'=>∃ v0_:Value,e=.returned (v0_)∧Kd.R (Kd.int .u8) 5 w' w0.heap.size (fun k_=>(P0_ k_∨w.heap.size≤k_)) v0_ r∧Below w0.heap.size w0 w'∧Kept w w' (fun k_=>P0_ k_):=by
 have HO0:=Qz.k (show Kd.R (Kd.int .u8) 5 w w0.heap.size (fun k_=>(P0_ k_∨w.heap.size≤k_)) u9000_ l0 from Kd.R_mono ho0 (fun k_ hk=>(.inl hk)))
 have HR1:=Qz.k hr1
 have HC1:=Qz.k hc1
 clear hr1 hc1
 have HK:=Qz.k (Kept.refl w (fun k_=>P0_ k_))
 have HW0:=Qz.k hB.size
 have HB:=Qz.k hB
 clear hB
 have H:(if l0.length+l1.length<140737488355328 then(some (l0++l1))else(none))=some r:=h
 clear h
 by_cases c3:l0.length+l1.length<140737488355328
 ·rw [if_pos c3]at H
  have LMc3:=Qz.k c3
  clear c3
  obtain⟨y119,hy119⟩:∃ y_:List Int,y_=(l0++l1):=⟨_,rfl⟩
  replace H:(some y119)=some r:=by first|(rw [hy119];with_reducible exact H)|(have H2_:=(Option.bind_some _ _).symm.trans H;rw [hy119];with_reducible exact H2_)|(have H2_:=(Option.bind_some _ _).symm.trans H;with_reducible exact H2_)|with_reducible exact H|(rw [hy119];exact H)|exact H
  have Ny119:=Qz.k hy119
  clear hy119
  obtain rfl:=Option.some.inj H
  go_enter Tryz.func85,Tryz.ntmps85
  go_wp2_with (first|((with_reducible refine agk (b := .append) (xs:=#[.tmp 5,.tmp 6]) rfl ?_);at_builtin;refine Kd.ahq (Kd.int .u8) (w0:=w0) w0.heap.size rfl (.tmp 5) (.tmp 6) 27 5 (.int .u8 0) 1 rfl Tryz.underlying27 info5 rfl (by decide) (by omega) u9000_ l0 l1 _ _ _ (fun k_=>(P0_ k_∨w.heap.size≤k_)) (fun _=>False) rfl rfl ?aO ?aR (fun _ _ h=>h) (fun _ h=>h.elim) ?aF ?aB ?aS ?aL ?_;(case aR=>exact Kd.C_kept_now HR1.out (by repeat(first|(with_reducible first|exact HK.out|apply Kept.alloc|apply Kept.drewN|apply Kept.drew)|exact HK.out)));(case aB=>exact au_);(case aF=>exact(fun k_ hk=>(.inr (Nat.le_trans (by first|exact HK.out.1|exact(show Kept w _ (fun k_=>P0_ k_)from by repeat(first|(with_reducible first|exact HK.out|apply Kept.alloc|apply Kept.drewN|apply Kept.drew)|exact HK.out)).1) hk))));(case aO=>exact(al_ HO0.out));(case aS=>exact(afq au_));(case aL=>have:=LMc3.out;omega);intro v120 w4 ho hb hg hat;rw [←Ny119.out]at ho;have n0_:=Qz.k (hb);have n1_:=Qz.k (Kept.of_grown (S:=(fun k_=>P0_ k_)) hg (by repeat(first|(with_reducible first|exact HK.out|apply Kept.alloc|apply Kept.drewN|apply Kept.drew)|exact HK.out)) (fun k_ e_=>(HO0.out.1 k_ e_)));have n2_:=Qz.k (ho);clear HB;clear HK;clear HO0;have HB:=n0_;have HK:=n1_;have HO121:=n2_;clear n0_ n1_ n2_;clear ho hb hg hat))
  go_ret
  exact⟨_,by first|rfl|(simp [aek,aeq] <;> rfl)|(simp [*,aek,aeq] <;> rfl),by(with_reducible repeat(first|apply Kd.akq|apply Kd.akk|apply Kd.amz));exact HO121.out,au_,by repeat(first|(with_reducible first|exact HK.out|apply Kept.alloc|apply Kept.drewN|apply Kept.drew)|exact HK.out)⟩
 ·rw [if_neg c3]at H
  exact absurd H (by simp)
def varint_Append.l0 : Nat→Int→List Int→Option (List Int)
 | 0,_,_=>none
 |k+1,x1,x5=>if x1≥128 then((varint_with.f x5 (([Go.bits .or .u8 ((x1)%256) 128]:List Int))).bind fun t128=>(varint_Append.l0 k (x1/128) t128))else((varint_with.f x5 (([(x1)%256]:List Int))).bind fun t134=>(some t134))
def varint_Append.f (k:Nat)(l0:List Int)(a1:Int):Option (List Int):=(slices_Clone_byte_byte.f l0).bind fun t122=>(varint_Append.l0 k a1 t122)
theorem varint_Append.atz : ∀ k,(∀ y0 y1,LeO (varint_Append.l0 k y0 y1) (varint_Append.l0 (k+1) y0 y1))
 | 0=>fun _ _ r h=>by simp [varint_Append.l0]at h
 |k+1=>by
  have ih0:=varint_Append.atz k
  ·intro y0 y1
   unfold varint_Append.l0
   repeat' first
   |(with_reducible exact ih0 _ _)
   |(with_reducible exact LeO.refl _)
   |(with_reducible exact LeO.none _)
   |(with_reducible refine LeO.ite ?_ ?_)
   |(with_reducible refine LeO.bind ?_ (fun _=>?_))
   |exact ih0 _ _
   |exact LeO.none _
   |refine LeO.ite ?_ ?_
   |refine LeO.bind ?_ (fun _=>?_)
theorem varint_Append.mono : ∀ a0 a1 k,LeO (varint_Append.f k a0 a1) (varint_Append.f (k+1) a0 a1):=by
 intro a0 a1 k
 have ih0:=varint_Append.atz k
 unfold varint_Append.f
 repeat' first
   |(with_reducible exact ih0 _ _)
   |(with_reducible exact LeO.refl _)
   |(with_reducible exact LeO.none _)
   |(with_reducible refine LeO.ite ?_ ?_)
   |(with_reducible refine LeO.bind ?_ (fun _=>?_))
   |exact ih0 _ _
   |exact LeO.none _
   |refine LeO.ite ?_ ?_
   |refine LeO.bind ?_ (fun _=>?_)
set_option maxHeartbeats 8000000 in
theorem varint_Append.calls (k:Nat)(A0:Option Addr)(c0:Nat)(l0:List Int)(a1:Int)(r:List Int)(w:World)(hr0:Kd.C (Kd.int .u8) w A0 l0.length l0)(hc0:l0.length≤c0)(h:varint_Append.f k l0 a1=some r) :
  Calls Tryz.prog 43 #[.slice A0 l0.length c0,.int .u64 a1] w fun e w'=>∃ v0_:Value,e=.returned (v0_)∧Kd.R (Kd.int .u8) 5 w' w.heap.size (fun _=>True) v0_ r∧Below w.heap.size w w':=by
 have HR0:=Qz.k hr0
 have HC0:=Qz.k hc0
 clear hr0 hc0
 have HB:=Qz.k (Below.refl w.heap.size w)
 have H:((slices_Clone_byte_byte.f l0).bind fun t122=>(varint_Append.l0 k a1 t122))=some r:=h
 clear h
 replace H:=Option.bind_eq_some_iff.mp H
 obtain⟨t122,A30,H⟩:=H
 replace H:(varint_Append.l0 k a1 t122)=some r:=H
 have A3:=Qz.k A30
 clear A30
 have H':=Qz.k H
 clear H
 go_enter Tryz.func43,Tryz.ntmps43
 go_wp2_with (first|((with_reducible refine aiz (f:=22) rfl ?_);refine asq (some 7) rfl rfl Tryz.func22 (by kernel_rfl) rfl #[.slice A0 l0.length c0] rfl (by(try simp only [List.map_toArray,List.map_cons,List.map_nil]);first|done|rfl|(simp only [List.length_drop,List.length_take];rfl)) ?_;(with_reducible refine(slices_Clone_byte_byte.calls _ _ l0 t122 _ ?side1 ?side2 A3.out).mono ?_);(case side1=>repeat(first|exact HR0.out|(with_reducible refine Kd.aqk ?_ _)|(with_reducible refine Kd.aqz ?_ _)|(with_reducible refine Kd.atq ?_)));(case side2=>exact HC0.out);rintro e w4 ⟨v123,rfl,ho0,hb⟩;refine⟨_,rfl,?_⟩;have n0_:=Qz.k (Kd.aiq ho0 (afq au_));have n1_:=Qz.k (aaz au_ hb);clear HB;have HO124:=n0_;have HB:=n1_;clear n0_ n1_;(try clear hb);(try clear hb2);(try clear hk);(try clear hi);(try clear ho0)))
 go_loopg [1,5] k (fun kq v1 v5 w'=>∃ (x1_1:Int) (x5_1:List Int),v1=.int .u64 x1_1∧Qz (varint_Append.l0 kq x1_1 x5_1=some r)∧Qz (kq≤k)∧Qz (Kd.R (Kd.int .u8) 5 w' w.heap.size (fun _=>True) v5 x5_1)∧Qz (Below w.heap.size w w'))
 case atStart=>exact⟨(a1),(t122),(by first|rfl|(simp;done)|(simp [*];done)),H',⟨Nat.le_refl _⟩,⟨by(with_reducible repeat(first|apply Kd.akq|apply Kd.akk|apply Kd.amz));exact HO124.out⟩,⟨au_⟩⟩
 case round=>
  clear H'
  try clear c2
  try clear p2
  try clear c4
  obtain⟨x1_1,x5_1,rfl,HA,HK1,HO_5,HB⟩:=hrel
  cases gk with
  |zero=>exact absurd HA.out (by simp [varint_Append.l0])
  |succ k1=>
   have H:=HA.out
   clear HA
   simp only [varint_Append.l0]at H
   by_cases c5:x1_1≥128
   ·rw [if_pos c5]at H
    have c5b0:decide (128≤x1_1)=true:=decide_eq_true c5
    clear c5
    obtain⟨y125,hy125⟩:∃ y_:List Int,y_=(([Go.bits .or .u8 ((x1_1)%256) 128]:List Int)):=⟨_,rfl⟩
    replace H:((varint_with.f x5_1 y125).bind fun t128=>(varint_Append.l0 k1 (x1_1/128) t128))=some r:=by first|(rw [hy125];with_reducible exact H)|(have H2_:=(Option.bind_some _ _).symm.trans H;rw [hy125];with_reducible exact H2_)|(have H2_:=(Option.bind_some _ _).symm.trans H;with_reducible exact H2_)|with_reducible exact H|(rw [hy125];exact H)|exact H
    have Ny125:=Qz.k hy125
    clear hy125
    replace H:=Option.bind_eq_some_iff.mp H
    obtain⟨t128,A60,H⟩:=H
    replace H:(varint_Append.l0 k1 (x1_1/128) t128)=some r:=H
    have A6:=Qz.k A60
    clear A60
    have H':=Qz.k H
    clear H
    go_wp2_with (first|((with_reducible refine ahk (N:=16) rfl ?_);refine Kd.bwz (Kd.int .u8) _ 5 ?hg (N:=16) ?hd (xs:=([Go.bits .or .u8 ((x1_1)%256) 128]:List Int)) (inner:=[.int .u8 (Go.bits .or .u8 ((x1_1)%256) 128)]) (ok:=fun _=>True) (okp:=fun _=>True) ?hr ?hp (fun _ hk=>hk) trivial (Below.refl _ _) (Nat.le_refl _) (by simp) ?_;(case hd=>rfl);(case hg=>rfl);(case hr=>first|(go_simp;done)|(go_simp;rfl));(case hp=>exact(Reps.one (show Kd.M (Kd.int .u8) _ _ _ (Go.bits .or .u8 ((x1_1)%256) 128) [.int .u8 (Go.bits .or .u8 ((x1_1)%256) 128)]from rfl) (Reps.none _ _)));intro v126 w7 ho8 hb hg_ hnew_;clear hg_ hnew_;(first|rw [←Ny125.out]at ho8|(simp only [Int.reduceToNat]at ho8;rw [←Ny125.out]at ho8));have n0_:=Qz.k (Kd.aHk (al_ HO_5.out) (Kd.aRz ho8) hb);have n1_:=Qz.k (Kd.aiq (Kd.aYq ho8 (Kd.R_lt (al_ HO_5.out))) (afq au_));have n2_:=Qz.k (aaz au_ hb);clear HO_5;clear HB;have HO_5:=n0_;have HO127:=n1_;have HB:=n2_;clear n0_ n1_ n2_;clear hb ho8;obtain⟨Ao9,co9,eo9⟩:=Kd.afz HO_5.out;subst eo9;obtain⟨Ao10,co10,eo10⟩:=Kd.afz HO127.out;subst eo10)|((with_reducible refine aiz (f:=85) rfl ?_);refine asq (some 17) rfl rfl Tryz.func85 (by kernel_rfl) rfl #[.slice Ao9 x5_1.length co9,.slice Ao10 y125.length co10] rfl (by(try simp only [List.map_toArray,List.map_cons,List.map_nil]);first|done|rfl|(simp only [List.length_drop,List.length_take];rfl)) ?_;(with_reducible refine(varint_with.calls (fun k_=>some k_=(.slice Ao9 x5_1.length co9:Value).ownBlock) (.slice Ao9 x5_1.length co9) x5_1 _ _ y125 t128 w _ ?side1 ?side2 ?side3 ?side4 A6.out).mono ?_);(case side1=>repeat(first|(with_reducible first|exact HB.out|apply aaq|apply adz|apply aez)|exact HB.out));(case side2=>exact Kd.bSz rfl HO_5.out);(case side3=>exact Kd.b6q (HO127.out) (fun k_ hk_ hs_=>(hk_.2) hs_));(case side4=>exact(Kd.ack HO127.out).2.1);rintro e w11 ⟨v129,rfl,ho0,hb,hkp⟩;refine⟨_,rfl,?_⟩;have n0_:=Qz.k (Kd.R_mono (ok':=fun k_=>some k_≠(v129:Value).ownBlock) (Kd.R_keptB (HO127.out) hkp (fun k_ hk_ hs_=>(hk_.2) hs_)) (fun k_ hk_=>fun e_=>Or.elim (ho0.1 k_ e_.symm) (fun hs_=>hk_.2.1 hs_) (fun hn_=>Nat.not_le.2 hk_.2.2 hn_)));have n1_:=Qz.k (Kd.R_mono (ok':=fun k_=>some k_≠(.slice Ao10 y125.length co10:Value).ownBlock) ho0 (fun k_ hk_=>Or.elim hk_ (fun hs_=>fun e_=>(((HO127.out).1 k_ e_.symm).2) hs_) (fun hn_=>(Kd.fresh' (Kd.R_lt (al_ HO127.out)) k_ hn_))));have n2_:=Qz.k (hb);clear HO127;clear HB;clear HO_5;have HO127:=n0_;have HO130:=n1_;have HB:=n2_;clear n0_ n1_ n2_;(try clear hb);(try clear hkp);(try clear ho0)))
    go_roundg k1
    case measure=>have:=HK1.out;omega
    case rel=>exact⟨(x1_1/128),(t128),(by first|rfl|(simp;done)|(simp [*];done)),H',⟨by have:=HK1.out;omega⟩,⟨by(with_reducible repeat(first|apply Kd.akq|apply Kd.akk|apply Kd.amz));exact Kd.R_mono HO130.out (fun _ hk=>trivial)⟩,⟨au_⟩⟩
   ·rw [if_neg c5]at H
    have c5b0:decide (128≤x1_1)=false:=decide_eq_false c5
    clear c5
    obtain⟨y131,hy131⟩:∃ y_:List Int,y_=(([(x1_1)%256]:List Int)):=⟨_,rfl⟩
    replace H:((varint_with.f x5_1 y131).bind fun t134=>(some t134))=some r:=by first|(rw [hy131];with_reducible exact H)|(have H2_:=(Option.bind_some _ _).symm.trans H;rw [hy131];with_reducible exact H2_)|(have H2_:=(Option.bind_some _ _).symm.trans H;with_reducible exact H2_)|with_reducible exact H|(rw [hy131];exact H)|exact H
    have Ny131:=Qz.k hy131
    clear hy131
    replace H:=Option.bind_eq_some_iff.mp H
    obtain⟨t134,A120,H⟩:=H
    replace H:(some t134)=some r:=H
    have A12:=Qz.k A120
    clear A120
    obtain rfl:=Option.some.inj H
    go_wp2_with (first|((with_reducible refine ahk (N:=21) rfl ?_);refine Kd.bwz (Kd.int .u8) _ 5 ?hg (N:=21) ?hd (xs:=([(x1_1)%256]:List Int)) (inner:=[.int .u8 ((x1_1)%256)]) (ok:=fun _=>True) (okp:=fun _=>True) ?hr ?hp (fun _ hk=>hk) trivial (Below.refl _ _) (Nat.le_refl _) (by simp) ?_;(case hd=>rfl);(case hg=>rfl);(case hr=>first|(go_simp;done)|(go_simp;rfl));(case hp=>exact(Reps.one (show Kd.M (Kd.int .u8) _ _ _ ((x1_1)%256) [.int .u8 ((x1_1)%256)]from rfl) (Reps.none _ _)));intro v132 w13 ho14 hb hg_ hnew_;clear hg_ hnew_;(first|rw [←Ny131.out]at ho14|(simp only [Int.reduceToNat]at ho14;rw [←Ny131.out]at ho14));have n0_:=Qz.k (Kd.aHk (al_ HO_5.out) (Kd.aRz ho14) hb);have n1_:=Qz.k (Kd.aiq (Kd.aYq ho14 (Kd.R_lt (al_ HO_5.out))) (afq au_));have n2_:=Qz.k (aaz au_ hb);clear HO_5;clear HB;have HO_5:=n0_;have HO133:=n1_;have HB:=n2_;clear n0_ n1_ n2_;clear hb ho14;obtain⟨Ao15,co15,eo15⟩:=Kd.afz HO_5.out;subst eo15;obtain⟨Ao16,co16,eo16⟩:=Kd.afz HO133.out;subst eo16)|((with_reducible refine aiz (f:=85) rfl ?_);refine asq (some 22) rfl rfl Tryz.func85 (by kernel_rfl) rfl #[.slice Ao15 x5_1.length co15,.slice Ao16 y131.length co16] rfl (by(try simp only [List.map_toArray,List.map_cons,List.map_nil]);first|done|rfl|(simp only [List.length_drop,List.length_take];rfl)) ?_;(with_reducible refine(varint_with.calls (fun k_=>some k_=(.slice Ao15 x5_1.length co15:Value).ownBlock) (.slice Ao15 x5_1.length co15) x5_1 _ _ y131 t134 w _ ?side1 ?side2 ?side3 ?side4 A12.out).mono ?_);(case side1=>repeat(first|(with_reducible first|exact HB.out|apply aaq|apply adz|apply aez)|exact HB.out));(case side2=>exact Kd.bSz rfl HO_5.out);(case side3=>exact Kd.b6q (HO133.out) (fun k_ hk_ hs_=>(hk_.2) hs_));(case side4=>exact(Kd.ack HO133.out).2.1);rintro e w17 ⟨v135,rfl,ho0,hb,hkp⟩;refine⟨_,rfl,?_⟩;have n0_:=Qz.k (Kd.R_mono (ok':=fun k_=>some k_≠(v135:Value).ownBlock) (Kd.R_keptB (HO133.out) hkp (fun k_ hk_ hs_=>(hk_.2) hs_)) (fun k_ hk_=>fun e_=>Or.elim (ho0.1 k_ e_.symm) (fun hs_=>hk_.2.1 hs_) (fun hn_=>Nat.not_le.2 hk_.2.2 hn_)));have n1_:=Qz.k (Kd.R_mono (ok':=fun k_=>some k_≠(.slice Ao16 y131.length co16:Value).ownBlock) ho0 (fun k_ hk_=>Or.elim hk_ (fun hs_=>fun e_=>(((HO133.out).1 k_ e_.symm).2) hs_) (fun hn_=>(Kd.fresh' (Kd.R_lt (al_ HO133.out)) k_ hn_))));have n2_:=Qz.k (hb);clear HO133;clear HB;clear HO_5;have HO133:=n0_;have HO136:=n1_;have HB:=n2_;clear n0_ n1_ n2_;(try clear hb);(try clear hkp);(try clear ho0)))
    go_ret
    exact⟨_,by first|rfl|(simp [aek,aeq] <;> rfl)|(simp [*,aek,aeq] <;> rfl),by(with_reducible repeat(first|apply Kd.akq|apply Kd.akk|apply Kd.amz));exact Kd.R_mono HO136.out (fun _ hk=>trivial),au_⟩
def cursor_Block.f (k:Nat)(l0:List Int):Option (List Int):=(varint_Append.f k ([]:List Int) (IntKind.u64.wrap ((l0.length:Int)))).bind fun t137=>(if t137.length+l0.length<140737488355328 then(some (t137++l0))else(none))
theorem cursor_Block.mono : ∀ a0 k,LeO (cursor_Block.f k a0) (cursor_Block.f (k+1) a0):=by
 intro a0 k
 unfold cursor_Block.f
 repeat' first
   |(with_reducible exact varint_Append.mono _ _ _)
   |(with_reducible exact LeO.refl _)
   |(with_reducible exact LeO.none _)
   |(with_reducible refine LeO.ite ?_ ?_)
   |(with_reducible refine LeO.bind ?_ (fun _=>?_))
   |exact varint_Append.mono _ _ _
   |exact LeO.none _
   |refine LeO.ite ?_ ?_
   |refine LeO.bind ?_ (fun _=>?_)
set_option maxHeartbeats 8000000 in
theorem cursor_Block.calls (k:Nat)(A0:Option Addr)(c0:Nat)(l0:List Int)(r:List Int)(w:World)(hr0:Kd.C (Kd.int .u8) w A0 l0.length l0)(hc0:l0.length≤c0)(h:cursor_Block.f k l0=some r) :
  Calls Tryz.prog 25 #[.slice A0 l0.length c0] w fun e w'=>∃ v0_:Value,e=.returned (v0_)∧Kd.R (Kd.int .u8) 5 w' w.heap.size (fun _=>True) v0_ r∧Below w.heap.size w w':=by
 have HR0:=Qz.k hr0
 have HC0:=Qz.k hc0
 clear hr0 hc0
 have HB:=Qz.k (Below.refl w.heap.size w)
 have H:((varint_Append.f k ([]:List Int) (IntKind.u64.wrap ((l0.length:Int)))).bind fun t137=>(if t137.length+l0.length<140737488355328 then(some (t137++l0))else(none)))=some r:=h
 clear h
 replace H:=Option.bind_eq_some_iff.mp H
 obtain⟨t137,A20,H⟩:=H
 replace H:(if t137.length+l0.length<140737488355328 then(some (t137++l0))else(none))=some r:=H
 have A2:=Qz.k A20
 clear A20
 by_cases c3:t137.length+l0.length<140737488355328
 ·rw [if_pos c3]at H
  have LMc3:=Qz.k c3
  clear c3
  obtain⟨y140,hy140⟩:∃ y_:List Int,y_=(t137++l0):=⟨_,rfl⟩
  replace H:(some y140)=some r:=by first|(rw [hy140];with_reducible exact H)|(have H2_:=(Option.bind_some _ _).symm.trans H;rw [hy140];with_reducible exact H2_)|(have H2_:=(Option.bind_some _ _).symm.trans H;with_reducible exact H2_)|with_reducible exact H|(rw [hy140];exact H)|exact H
  have Ny140:=Qz.k hy140
  clear hy140
  obtain rfl:=Option.some.inj H
  go_enter Tryz.func25,Tryz.ntmps25
  go_wp2_with (first|((with_reducible refine aiz (f:=43) rfl ?_);refine asq (some 6) rfl rfl Tryz.func43 (by kernel_rfl) rfl #[.slice none 0 0,.int .u64 (IntKind.u64.wrap ((l0.length:Int)))] rfl (by(try simp only [List.map_toArray,List.map_cons,List.map_nil]);first|done|rfl|(simp only [List.length_drop,List.length_take];rfl)) ?_;(refine(varint_Append.calls k _ _ ([]:List Int) (IntKind.u64.wrap ((l0.length:Int))) t137 _ ?side1 ?side2 A2.out).mono ?_);(case side1=>exact Kd.a7q _ _);(case side2=>exact Nat.le_refl _);rintro e w4 ⟨v138,rfl,ho0,hb⟩;refine⟨_,rfl,?_⟩;have n0_:=Qz.k (Kd.aiq ho0 (afq au_));have n1_:=Qz.k (aaz au_ hb);clear HB;have HO139:=n0_;have HB:=n1_;clear n0_ n1_;(try clear hb);(try clear hb2);(try clear hk);(try clear hi);(try clear ho0))|((with_reducible refine agk (b := .append) (xs:=#[.tmp 6,.tmp 7]) rfl ?_);at_builtin;refine Kd.ahq (Kd.int .u8) (w0:=w) w.heap.size rfl (.tmp 6) (.tmp 7) 27 5 (.int .u8 0) 1 rfl Tryz.underlying27 info5 rfl (by decide) (by omega) v138 t137 l0 _ _ _ (fun _=>True) (fun _=>False) rfl rfl ?aO ?aR (fun _ _ h=>h) (fun _ h=>h.elim) ?aF ?aB ?aS ?aL ?_;(case aR=>repeat(first|exact(Kd.acz HR0.out HB.out)|(with_reducible refine Kd.aqk ?_ _)|(with_reducible refine Kd.aqz ?_ _)|(with_reducible refine Kd.atq ?_)));(case aB=>exact au_);(case aF=>exact(fun _ _=>trivial));(case aO=>exact(al_ HO139.out));(case aS=>exact(afq au_));(case aL=>have:=LMc3.out;omega);intro v141 w5 ho hb hg hat;rw [←Ny140.out]at ho;have n0_:=Qz.k (hb);have n1_:=Qz.k (ho);clear HB;clear HO139;have HB:=n0_;have HO142:=n1_;clear n0_ n1_;clear ho hb hg hat))
  go_ret
  exact⟨_,by first|rfl|(simp [aek,aeq] <;> rfl)|(simp [*,aek,aeq] <;> rfl),by(with_reducible repeat(first|apply Kd.akq|apply Kd.akk|apply Kd.amz));exact HO142.out,au_⟩
 ·rw [if_neg c3]at H
  exact absurd H (by simp)
end Go.Proofs.YthggdomocichdaaGreatDoor.P
namespace Go.Proofs.YthggdomocichdaaGreatDoor.P
open Go.RowKit Go.Proofs.YthggdomocichdaaGreatDoor.Kit Go.Proofs.YthggdomocichdaaGreatDoorW.PrintWords Go.Proofs.YthggdomocichdaaGreatDoorW.PrintLast Go.Proofs.YthggdomocichdaaGreatDoorW.PrintMore
section
variable {P:Program}{w:World}
theorem bcz (t tn ty e:TypeId)(i:TypeInfo)(z:Value)(kq kn:IntKind)(ht:P.underlying t=some (.slice e))(htn:P.underlying tn=some (.int kn))(hi:P.info? e=some i)(hz:i.zero=some z)
  (g sLen sCap:Nat) (cur:Array Value) (hg:w.heap[g]? = some (.cells cur e (0,0))) (k:Nat) (h0:0<k) (hs:0<i.size) (hzs:z.cells.size=i.size) (h63:((sLen+k:Nat):Int)≤9223372036854775807) (h48:k*i.bytes≤281474976710656)
  (h1:∀ u∈(Builtin.zeroCells z.cells k).toList,u.oneCell'=true) (hroom:sLen+k≤sCap) (hfit:sLen*i.size+(Builtin.zeroCells z.cells k).toList.length≤cur.size) :
  (Builtin.append_ #[t,tn] ty #[.slice (some ⟨g,0,none⟩) sLen sCap,.int kq k]).run P w =
   .ok (.slice (some ⟨g,0,none⟩) (sLen+k) sCap) (w.setRow g (cur.toList.take (sLen*i.size)++(Builtin.zeroCells z.cells k).toList++cur.toList.drop (sLen*i.size+(Builtin.zeroCells z.cells k).toList.length)).toArray):=by
 have hk:k≠0:=by omega
 have hw:IntKind.i64.wrap (k:Int)=k:=by rw [IntKind.wrap_i64];omega
 have h48i:¬ (281474976710656<(k:Int)*(i.bytes:Int)):=by
  rw [←Int.natCast_mul]
  omega
 have hneg:¬ ((k:Int)<0):=by omega
 have hns:¬ (k*i.size=0):=Nat.mul_ne_zero hk (by omega)
 have hst:=run_storeCells_at P g (sLen*i.size) e (Builtin.zeroCells z.cells k).toList 0 cur w hg (by simpa using hfit) h1
 simp only [Nat.add_zero]at hst
 simp [Builtin.append_,run_underlying ht,run_underlying htn,sizeOf,typeInfo,zeroValue,hi,hz,asInt,asIntOf,hw,hneg,hns,h48i,hroom,Addr.add_lit,hst]
theorem biq (base:Nat)(t tn ty e:TypeId)(i:TypeInfo)(z:Value)(kq kn:IntKind)(ht:P.underlying t=some (.slice e))(htn:P.underlying tn=some (.int kn))(hi:P.info? e=some i)(hz:i.zero=some z)
  (hzs:z.cells.size=i.size) (hsz:0<i.size) (v:Value) (n:Nat) (xs:List Value) (hown:w.ownsRow base e i.size v n xs) (m:Nat) (h0:0<m)
  (h1:∀ u∈(Builtin.zeroCells z.cells m).toList,u.oneCell'=true) (h63:n+m≤maxLen) (hbytes:(n+m)*i.bytes≤140737488355328) (hbase:base≤w.heap.size) :
  ∃ v' w',(Builtin.append_ #[t,tn] ty #[v,.int kq m]).run P w=.ok v' w'∧w'.ownsRow base e i.size v' (n+m) (xs++(Builtin.zeroCells z.cells m).toList)∧w.grownBy w' v.ownBlock∧(v'.ownBlock=v.ownBlock∨v'.ownBlock=some w.heap.size):=by
 have hsmall:n+m≤9223372036854775807:=by simp only [maxLen]at h63;omega
 have hl:(Builtin.zeroCells z.cells m).toList.length=m*i.size:=by rw [Array.length_toList,size_zeroCells,hzs]
 have hlen:(xs++(Builtin.zeroCells z.cells m).toList).length=(n+m)*i.size:=by rw [List.length_append,hown.1,hl,Nat.add_mul]
 have hmb:m*i.bytes≤(n+m)*i.bytes:=Nat.mul_le_mul_right _ (by omega)
 have grown:∀ (old:Nat),old<n+m→∀ (row:Option Nat),
   (w.drew.alloc (.cells (xs.toArray++Builtin.zeroCells z.cells m++Builtin.zeroCells z.cells (grownCap w (n+m) old e-(n+m))) e)).ownsRow base e i.size
    (.slice (some ⟨w.heap.size,0,none⟩) (n+m) (grownCap w (n+m) old e)) (n+m) (xs++(Builtin.zeroCells z.cells m).toList) ∧
   w.grownBy (w.drew.alloc (.cells (xs.toArray++Builtin.zeroCells z.cells m++Builtin.zeroCells z.cells (grownCap w (n+m) old e-(n+m))) e)) row:=by
  intro old ho row
  have hge:=grownCap_ge w (n+m) old e
  have hcm:grownCap w (n+m) old e≤maxLen:=grownCap_le_maxLen w (n+m) old e h63
  refine⟨⟨hlen,.inr ⟨w.heap.size,_,_,rfl,hbase,(MapKept.heap_alloc w.drew _).1,hge,hcm,?_,?_⟩⟩,⟨rfl,rfl,rfl,by simp,fun k hk _=>(MapKept.heap_alloc w.drew _).2 k (by simpa using hk)⟩⟩
  ·simp only [Array.size_append,List.size_toArray,size_zeroCells,hzs,hown.1,←Nat.add_mul]
   congr 1
   omega
  ·simp only [Array.toList_append,List.append_assoc]
   rw [←List.append_assoc,←hlen]
   exact List.take_left
 rcases hown.2 with⟨rfl,rfl⟩|⟨g,cap,cur,rfl,hbg,hg,hnc,hcm,hcs,htake⟩
 ·have hx:xs=[]:=List.eq_nil_of_length_eq_zero (by simpa using hown.1)
  subst hx
  have hr:=Lib.run_append_nil_zeros (P:=P) w t tn ty e i z kq kn ht htn hi hz m h0 hsz (by omega) (by omega)
  have hgr:=grown 0 (by omega) (Value.ownBlock (.slice none 0 0))
  simp only [Nat.zero_add,List.nil_append,Array.empty_append]at hgr ⊢
  exact⟨_,_,hr,hgr.1,hgr.2,Or.inr rfl⟩
 ·by_cases hroom:n+m≤cap
  ·have hfit:n*i.size+(Builtin.zeroCells z.cells m).toList.length≤cur.size:=by rw [hl,hcs,←Nat.add_mul];exact Nat.mul_le_mul_right _ hroom
   have hr:=bcz (P:=P) (w:=w) t tn ty e i z kq kn ht htn hi hz g n cap cur hg m h0 hsz hzs (by omega) (by omega) h1 hroom hfit
   refine⟨_,_,hr,⟨hlen,.inr ⟨g,cap,_,rfl,hbg,setRow_heap w g cur _ e _ hg,hroom,hcm,?_,?_⟩⟩,⟨rfl,rfl,rfl,by simp,fun k _ hk=>setRow_other w g k _ (fun e=>hk (by simp [Value.ownBlock,e]))⟩,Or.inl rfl⟩
   ·simp only [List.size_toArray,List.length_append,List.length_take,List.length_drop,Array.length_toList]at hfit ⊢
    omega
   ·rw [htake,←hlen]
    exact List.take_left
  ·have holds:∀ j u,xs[j]? = some u→w.cell? ((⟨g,0,none⟩:Addr).add j)=some u:=hown.cells (g:=g) rfl
   have hfo:=run_firstCells_some (P:=P) w.drew i.size n ⟨g,0,none⟩ n cap xs hown.1 (by simpa using holds)
   have hr:=Lib.run_append_grow_zeros (P:=P) w t tn ty e i z kq kn ht htn hi hz (some ⟨g,0,none⟩) n cap xs hfo m h0 hsz (by omega) (by omega) (by omega) (growslice_fits (by omega) hbytes)
   have hgr:=grown cap (by omega) (Value.ownBlock (.slice (some ⟨g,0,none⟩) n cap))
   exact⟨_,_,hr,hgr.1,hgr.2,Or.inr rfl⟩
end
section
variable {P:Program}{ops:Array Oper}{rest:List Oper}{o:Oper}{a:Act}{Q:Exit→Act→World→Prop}
theorem bjq {w0 W:World}(base:Nat)(hgd:o.guard=none)(s x:Operand)(t tn e:TypeId)(kq kn:IntKind)(bytes:Nat)
  (ho:o.op=.call { callee := .builtin .append,args:=#[s,x],argTypes:=#[t,tn] }) (ht:P.underlying t=some (.slice e)) (htn:P.underlying tn=some (.int kn))
  (hinfo:(P.info? e).map (fun i=>(i.zero,i.size,i.bytes))=some (some (.int .u8 0),1,bytes)) (v:Value) (xs:List Int) (m:Nat) (h0:0<m) (hzc:(Builtin.zeroCells (Value.int .u8 0).cells m).toList=List.replicate m (Value.int .u8 0)) (hs:a.eval s=v) (hx:a.eval x=.int kq m)
  (HO:Kd.R (Kd.int .u8) e W base (fun _=>True) v xs) (HB:Below base w0 W) (hbase:base≤W.heap.size) (hl:(xs.length+m)*bytes≤140737488355328) (hl2:xs.length+m≤140737488355328)
  (h:∀ v1 w1,Kd.R (Kd.int .u8) e w1 base (fun _=>True) v1 (xs++List.replicate m 0)→Below base w0 w1→W.grownBy w1 v.ownBlock→wpList P ops Q rest (a.put o.dst v1) w1) :
  wpList P ops Q (o :: rest) a W:=by
 obtain⟨i0,hi,hzz⟩:=Option.map_eq_some_iff.1 hinfo
 simp only [Prod.mk.injEq]at hzz
 obtain⟨hz0,hz1,hz2⟩:=hzz
 have hown:=Kd.own_of_R HO
 have henc:encs (Value.int .u8) (xs++List.replicate m 0)=encs (Value.int .u8) xs++List.replicate m (Value.int .u8 0):=by
  simp [encs]
 obtain⟨v1,w1,hr,h2,hg,hat⟩:=biq (P:=P) (w:=W) base t tn o.type e i0 (.int .u8 0) kq kn ht htn hi hz0 (by rw [hz1];rfl) (by omega) v xs.length (encs (Value.int .u8) xs) (by rw [hz1];exact hown) m h0
  (by rw [hzc];intro u hu;rw [List.eq_of_mem_replicate hu];rfl) (by simp only [maxLen];omega) (by rw [hz2];exact hl) hbase
 rw [hzc,←henc,hz1]at h2
 have hR:Kd.R (Kd.int .u8) e w1 base (fun _=>True) v1 (xs++List.replicate m 0):=Kd.R_of_own (by rw [List.length_append,List.length_replicate];exact h2) (fun _ _=>trivial)
 refine wpList_plain hgd fun K hK=>?_
 unfold Oper.wp execOp
 simp only [ho,resolve,invoke,builtin,Sem.run_bind,Sem.run_pure,Result.andThen_ok,List.map_toArray,List.map_cons,List.map_nil,hs,hx,hr]
 exact hK _ _ (h v1 w1 hR (HB.grown hg hbase (a5q hown)) hg)
end
theorem C_bytes {W:World}{g:Nat}{xs:List Int}(hl:xs.length≤9223372036854775807)(h:∀ j x,xs[j]? = some x→W.cell? ⟨g,j,none⟩=some (.int .u8 x)):Kd.C (Kd.int .u8) W (some ⟨g,0,none⟩) xs.length xs:=by
 refine⟨rfl,hl,fun _=>⟨_,rfl,fun j p hj=>⟨[.int .u8 p],rfl,rfl,fun i u hu=>?_⟩⟩⟩
 cases i with
 |succ i=>simp at hu
 |zero=>
  simp only [List.getElem?_cons_zero,Option.some.injEq]at hu
  subst hu
  show W.cell? ((⟨g,0,none⟩:Addr).add (j*1+0))=_
  rw [addr_add,Nat.mul_one,Nat.add_zero,Nat.zero_add]
  exact h j p hj
theorem C_encs {W:World}{ad:Addr}{n:Nat}{xs:List Int}(h:Kd.C (Kd.int .u8) W (some ad) n xs):(encs (Value.int .u8) xs).length=n*1∧∀ j v,(encs (Value.int .u8) xs)[j]? = some v→W.cell? (ad.add j)=some v:=by
 obtain⟨hl,_,hc⟩:=h
 refine⟨by simp [encs,hl],fun j v hv=>?_⟩
 simp only [encs,List.getElem?_map,Option.map_eq_some_iff]at hv
 obtain⟨x,hx,rfl⟩:=hv
 have hj:=(List.getElem?_eq_some_iff.1 hx).1
 obtain⟨ad',e,hh⟩:=hc (by omega)
 injection e with e
 subst e
 obtain⟨cs,_,hk,hcell⟩:=hh j x hx
 have h0:=hcell 0 (.int .u8 x) (by have:cs=[.int .u8 x]:=hk;rw [this];rfl)
 have e2:(Kd.int IntKind.u8).sz=1:=rfl
 rw [e2,Nat.mul_one,Nat.add_zero]at h0
 exact h0
theorem aJk {W:World}{A:Option Addr}{n:Nat}{xs:List Int}(h:Kd.C (Kd.int .u8) W A n xs){p:Addr}{u:Value}(v:Value)(hp:W.cell? p=some u)(hu:∀ x,u≠.int .u8 x):Kd.C (Kd.int .u8) (W.setCell p v) A n xs:=by
 refine⟨h.1,h.2.1,fun hn=>?_⟩
 obtain⟨ad,e,hh⟩:=h.2.2 hn
 refine⟨ad,e,fun j q hj=>?_⟩
 obtain⟨cs,h1,h2,h3⟩:=hh j q hj
 refine⟨cs,h1,h2,fun i x hx=>?_⟩
 have h4:=h3 i x hx
 have h5:x=.int .u8 q:=by
  have e2:cs=[.int .u8 q]:=h2
  subst e2
  cases i with
  |zero=>simpa using hx.symm
  |succ i=>simp at hx
 have hne:ad.add (j*(Kd.int IntKind.u8).sz+i)≠p:=fun he=>by
  rw [he,hp]at h4
  exact hu q (by rw [←h5];exact Option.some.inj h4)
 exact(World.cell?_setCell_other _ _ _ _ (by first|exact hne|exact hne.symm|exact fun he=>hne he.symm)).trans h4
section
variable {P:Program}{ops:Array Oper}{rest:List Oper}{o:Oper}{a:Act}{Q:Exit→Act→World→Prop}
theorem bwq {W:World}(hgd:o.guard=none)(s x:Operand)(t e:TypeId)(bytes:Nat)
  (ho:o.op=.call { callee := .builtin .append,args:=#[s,x],argTypes:=#[t,t] }) (ht:P.underlying t=some (.slice e))
  (hinfo:(P.info? e).map (fun i=>(i.zero,i.size,i.bytes))=some (some (.int .u8 0),1,bytes)) (ad:Addr) (n:Nat) (xs ys:List Int) (A:Option Addr) (m c:Nat) (hs:a.eval s=.slice (some ad) n n) (hx:a.eval x=.slice A m c)
  (HX:Kd.C (Kd.int .u8) W (some ad) n xs) (HY:Kd.C (Kd.int .u8) W A m ys) (hm:0<m) (hl:(n+m)*bytes≤140737488355328) (hl2:n+m≤140737488355328)
  (h:∀ v1 w1,Kd.R (Kd.int .u8) e w1 W.heap.size (fun _=>True) v1 (xs++ys)→Below W.heap.size W w1→wpList P ops Q rest (a.put o.dst v1) w1) :
  wpList P ops Q (o :: rest) a W:=by
 obtain⟨i0,hi,hzz⟩:=Option.map_eq_some_iff.1 hinfo
 simp only [Prod.mk.injEq]at hzz
 obtain⟨hz0,hz1,hz2⟩:=hzz
 obtain⟨hxl,hxc⟩:=C_encs HX
 have hnx:xs.length=n:=HX.1
 have hny:ys.length=m:=HY.1
 obtain⟨ay,rfl,_⟩:=HY.2.2 (by omega)
 obtain⟨hyl,hyc⟩:=C_encs HY
 have hr:=run_append_grow (P:=P) (w:=W) t o.type e i0 (.int .u8 0) ht hi hz0 ad n n (encs (Value.int .u8) xs) (by rw [hz1];exact hxl) hxc ay m c (encs (Value.int .u8) ys) (by rw [hz1];exact hyl) hyc (by omega) (by omega) (growslice_fits (by omega) (by rw [hz2];exact hl))
 have hge:=grownCap_ge W (n+m) n e
 have hcm:grownCap W (n+m) n e≤maxLen:=grownCap_le_maxLen W (n+m) n e (by simp only [maxLen];omega)
 have hll:(encs (Value.int .u8) (xs++ys)).length=(n+m)*1:=by rw [encs,List.length_map,List.length_append,hnx,hny,Nat.mul_one]
 have hee:encs (Value.int .u8) (xs++ys)=encs (Value.int .u8) xs++encs (Value.int .u8) ys:=by simp [encs]
 have hown:(W.drew.alloc (.cells ((encs (Value.int .u8) xs).toArray++(encs (Value.int .u8) ys).toArray++Builtin.zeroCells (Value.int .u8 0).cells (grownCap W (n+m) n e-(n+m))) e)).ownsRow W.heap.size e 1
    (.slice (some ⟨W.heap.size,0,none⟩) (n+m) (grownCap W (n+m) n e)) (n+m) (encs (Value.int .u8) (xs++ys)):=by
  refine⟨hll,.inr ⟨W.heap.size,_,_,rfl,Nat.le_refl _,(MapKept.heap_alloc W.drew _).1,hge,hcm,?_,?_⟩⟩
  ·simp only [Array.size_append,List.size_toArray,size_zeroCells,hxl,hyl]
   simp [Value.cells]
   omega
  ·rw [←hll,hee]
   simp only [Array.toList_append,List.append_assoc]
   rw [←List.append_assoc]
   exact List.take_left
 rw [←hnx,←hny,←List.length_append]at hown
 have hR:Kd.R (Kd.int .u8) e (W.drew.alloc (.cells ((encs (Value.int .u8) xs).toArray++(encs (Value.int .u8) ys).toArray++Builtin.zeroCells (Value.int .u8 0).cells (grownCap W (xs++ys).length xs.length e-(xs++ys).length)) e)) W.heap.size (fun _=>True) (.slice (some ⟨W.heap.size,0,none⟩) (xs++ys).length (grownCap W (xs++ys).length xs.length e)) (xs++ys):=Kd.R_of_own hown (fun _ _=>trivial)
 rw [List.length_append,hnx,hny]at hR
 refine wpList_plain hgd fun K hK=>?_
 unfold Oper.wp execOp
 simp only [ho,resolve,invoke,builtin,Sem.run_bind,Sem.run_pure,Result.andThen_ok,List.map_toArray,List.map_cons,List.map_nil,hs,hx,hr]
 exact hK _ _ (h _ _ hR ((aKk (Below.refl _ _)).alloc (Nat.le_refl _) _))
end
end Go.Proofs.YthggdomocichdaaGreatDoor.P
