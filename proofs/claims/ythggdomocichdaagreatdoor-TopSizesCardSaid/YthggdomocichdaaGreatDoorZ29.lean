/- Put together: Px11. -/
import Derived.Test.YthggdomocichdaaGreatDoorZ20
set_option maxRecDepth 100000
set_option linter.unusedVariables false
set_option linter.unusedSimpArgs false
namespace Go.Proofs.YthggdomocichdaaGreatDoor.P
open Go.RowKit Go.Proofs.YthggdomocichdaaGreatDoorW.PrintWords Go.Proofs.YthggdomocichdaaGreatDoorW.PrintLast Go.Proofs.YthggdomocichdaaGreatDoorW.PrintMore
attribute [local go_sem] awq awz aCq aCz azk azq aFz aEk
def cmp_Less_string.f (a0:ByteArray)(a1:ByteArray):Option (Bool):=(cmp_isNaN_string.f a0).bind fun t295=>(if t295=true then((cmp_isNaN_string.f a1).bind fun t296=>(if t296=true then(some (Op.bytesLess a0.toList a1.toList))else(some true)))else(some (Op.bytesLess a0.toList a1.toList)))
set_option maxHeartbeats 8000000 in
theorem cmp_Less_string.calls (a0:ByteArray)(a1:ByteArray)(r:Bool)(w:World)(h:cmp_Less_string.f a0 a1=some r) :
  Calls Tryz.prog 255 #[.string a0,.string a1] w fun e w'=>e=.returned (.bool r)∧Drawn0 w w':=by
 have H:((cmp_isNaN_string.f a0).bind fun t295=>(if t295=true then((cmp_isNaN_string.f a1).bind fun t296=>(if t296=true then(some (Op.bytesLess a0.toList a1.toList))else(some true)))else(some (Op.bytesLess a0.toList a1.toList))))=some r:=h
 clear h
 replace H:=Option.bind_eq_some_iff.mp H
 obtain⟨t295,A30,H⟩:=H
 replace H:(if t295=true then((cmp_isNaN_string.f a1).bind fun t296=>(if t296=true then(some (Op.bytesLess a0.toList a1.toList))else(some true)))else(some (Op.bytesLess a0.toList a1.toList)))=some r:=H
 have A3:=Qz.k A30
 clear A30
 by_cases c4:t295=true
 ·subst c4
  have H1:((cmp_isNaN_string.f a1).bind fun t296=>(if t296=true then(some (Op.bytesLess a0.toList a1.toList))else(some true)))=some r:=by rw [if_pos rfl]at H;exact H
  clear H
  have H:=H1
  clear H1
  replace H:=Option.bind_eq_some_iff.mp H
  obtain⟨t296,A50,H⟩:=H
  replace H:(if t296=true then(some (Op.bytesLess a0.toList a1.toList))else(some true))=some r:=H
  have A5:=Qz.k A50
  clear A50
  by_cases c6:t296=true
  ·subst c6
   have H1:(some (Op.bytesLess a0.toList a1.toList))=some r:=by rw [if_pos rfl]at H;exact H
   clear H
   have H:=H1
   clear H1
   obtain rfl:=Option.some.inj H
   go_enter Tryz.func255,Tryz.ntmps255
   go_wp2_with (first|((with_reducible refine aiz (f:=301) rfl ?_);refine asq (some 6) rfl rfl Tryz.func301 (by kernel_rfl) rfl #[.string a0] rfl (by(try simp only [List.map_toArray,List.map_cons,List.map_nil]);first|done|rfl|(simp only [List.length_drop,List.length_take];rfl)) ?_;(with_reducible refine(cmp_isNaN_string.calls a0 true _ A3.out).mono ?_);rintro e w' ⟨rfl,⟨nd,rfl⟩⟩;refine⟨_,rfl,?_⟩)|(go_at_call 301;(with_reducible refine(cmp_isNaN_string.calls a1 true _ A5.out).mono ?_);rintro e w' ⟨rfl,⟨nd,rfl⟩⟩))
   go_ret
   exact⟨by first|rfl|(simp;done)|(simp [*];done),by repeat(first|exact Drawn0.refl _|apply Drawn0.step)⟩
  ·replace c6:=Bool.eq_false_iff.mpr c6
   subst c6
   have H1:(some true)=some r:=by rw [if_neg (show ¬ (false=true)by decide)]at H;exact H
   clear H
   have H:=H1
   clear H1
   obtain rfl:=Option.some.inj H
   go_enter Tryz.func255,Tryz.ntmps255
   go_wp2_with (first|((with_reducible refine aiz (f:=301) rfl ?_);refine asq (some 6) rfl rfl Tryz.func301 (by kernel_rfl) rfl #[.string a0] rfl (by(try simp only [List.map_toArray,List.map_cons,List.map_nil]);first|done|rfl|(simp only [List.length_drop,List.length_take];rfl)) ?_;(with_reducible refine(cmp_isNaN_string.calls a0 true _ A3.out).mono ?_);rintro e w' ⟨rfl,⟨nd,rfl⟩⟩;refine⟨_,rfl,?_⟩)|(go_at_call 301;(with_reducible refine(cmp_isNaN_string.calls a1 false _ A5.out).mono ?_);rintro e w' ⟨rfl,⟨nd,rfl⟩⟩))
   go_ret
   exact⟨by first|rfl|(simp;done)|(simp [*];done),by repeat(first|exact Drawn0.refl _|apply Drawn0.step)⟩
 ·replace c4:=Bool.eq_false_iff.mpr c4
  subst c4
  have H1:(some (Op.bytesLess a0.toList a1.toList))=some r:=by rw [if_neg (show ¬ (false=true)by decide)]at H;exact H
  clear H
  have H:=H1
  clear H1
  obtain rfl:=Option.some.inj H
  go_enter Tryz.func255,Tryz.ntmps255
  go_wp2_with (first|((with_reducible refine aiz (f:=301) rfl ?_);refine asq (some 6) rfl rfl Tryz.func301 (by kernel_rfl) rfl #[.string a0] rfl (by(try simp only [List.map_toArray,List.map_cons,List.map_nil]);first|done|rfl|(simp only [List.length_drop,List.length_take];rfl)) ?_;(with_reducible refine(cmp_isNaN_string.calls a0 false _ A3.out).mono ?_);rintro e w' ⟨rfl,⟨nd,rfl⟩⟩;refine⟨_,rfl,?_⟩))
  go_ret
  exact⟨by first|rfl|(simp;done)|(simp [*];done),by repeat(first|exact Drawn0.refl _|apply Drawn0.step)⟩
mutual
def slices_insertionSortOrdered_string.l0 : Nat→List ByteArray→Int→Int→Int→Option (List ByteArray)
 | 0,_,_,_,_=>none
 |k+1,x0,x1,x2,x6=>if x6<x2 then(slices_insertionSortOrdered_string.l1 k x0 x1 x2 x6 x6)else(some x0)
def slices_insertionSortOrdered_string.l1 : Nat→List ByteArray→Int→Int→Int→Int→Option (List ByteArray)
 | 0,_,_,_,_,_=>none
 |k+1,x0,x1,x2,x6,x7=>if x7 > x1 then(if 0≤x7 then(if x7<(x0.length:Int)then(if 0≤(wrap64 (x7-1))then(if(wrap64 (x7-1))<(x0.length:Int)then((cmp_Less_string.f (rdOf ByteArray.empty x0 x7) (rdOf ByteArray.empty x0 (wrap64 (x7-1)))).bind fun t299=>(if t299=true then(slices_insertionSortOrdered_string.l1 k ((x0.set (x7:Int).toNat (rdOf ByteArray.empty x0 (wrap64 (x7-1)))).set ((wrap64 (x7-1)):Int).toNat (rdOf ByteArray.empty x0 x7)) x1 x2 x6 (wrap64 (x7-1)))else(slices_insertionSortOrdered_string.l0 k x0 x1 x2 (wrap64 (x6+1)))))else(none))else(none))else(none))else(none))else(slices_insertionSortOrdered_string.l0 k x0 x1 x2 (wrap64 (x6+1)))
end
def slices_insertionSortOrdered_string.f (k:Nat)(l0:List ByteArray)(a1:Int)(a2:Int):Option (List ByteArray):=slices_insertionSortOrdered_string.l0 k l0 a1 a2 (wrap64 (a1+1))
theorem slices_insertionSortOrdered_string.atz : ∀ k,(∀ y0 y1 y2 y3,LeO (slices_insertionSortOrdered_string.l0 k y0 y1 y2 y3) (slices_insertionSortOrdered_string.l0 (k+1) y0 y1 y2 y3))∧(∀ y0 y1 y2 y3 y4,LeO (slices_insertionSortOrdered_string.l1 k y0 y1 y2 y3 y4) (slices_insertionSortOrdered_string.l1 (k+1) y0 y1 y2 y3 y4))
 | 0=>⟨fun _ _ _ _ r h=>by simp [slices_insertionSortOrdered_string.l0]at h,fun _ _ _ _ _ r h=>by simp [slices_insertionSortOrdered_string.l1]at h⟩
 |k+1=>by
  obtain⟨ih0,ih1⟩:=slices_insertionSortOrdered_string.atz k
  refine⟨?_,?_⟩
  ·intro y0 y1 y2 y3
   unfold slices_insertionSortOrdered_string.l0
   repeat' first
   |(with_reducible exact ih0 _ _ _ _)
   |(with_reducible exact ih1 _ _ _ _ _)
   |(with_reducible exact LeO.refl _)
   |(with_reducible exact LeO.none _)
   |(with_reducible refine LeO.ite ?_ ?_)
   |(with_reducible refine LeO.bind ?_ (fun _=>?_))
   |exact ih0 _ _ _ _
   |exact ih1 _ _ _ _ _
   |exact LeO.none _
   |refine LeO.ite ?_ ?_
   |refine LeO.bind ?_ (fun _=>?_)
  ·intro y0 y1 y2 y3 y4
   unfold slices_insertionSortOrdered_string.l1
   repeat' first
   |(with_reducible exact ih0 _ _ _ _)
   |(with_reducible exact ih1 _ _ _ _ _)
   |(with_reducible exact LeO.refl _)
   |(with_reducible exact LeO.none _)
   |(with_reducible refine LeO.ite ?_ ?_)
   |(with_reducible refine LeO.bind ?_ (fun _=>?_))
   |exact ih0 _ _ _ _
   |exact ih1 _ _ _ _ _
   |exact LeO.none _
   |refine LeO.ite ?_ ?_
   |refine LeO.bind ?_ (fun _=>?_)
theorem slices_insertionSortOrdered_string.mono : ∀ a0 a1 a2 k,LeO (slices_insertionSortOrdered_string.f k a0 a1 a2) (slices_insertionSortOrdered_string.f (k+1) a0 a1 a2):=by
 intro a0 a1 a2 k
 obtain⟨ih0,ih1⟩:=slices_insertionSortOrdered_string.atz k
 unfold slices_insertionSortOrdered_string.f
 repeat' first
   |(with_reducible exact ih0 _ _ _ _)
   |(with_reducible exact ih1 _ _ _ _ _)
   |(with_reducible exact LeO.refl _)
   |(with_reducible exact LeO.none _)
   |(with_reducible refine LeO.ite ?_ ?_)
   |(with_reducible refine LeO.bind ?_ (fun _=>?_))
   |exact ih0 _ _ _ _
   |exact ih1 _ _ _ _ _
   |exact LeO.none _
   |refine LeO.ite ?_ ?_
   |refine LeO.bind ?_ (fun _=>?_)
def slices_insertionSortOrdered_string.T4 : Bool×List (List Nat×List Nat):=(true,[([],[]),([],[]),([0,1],[0,1]),([2],[2]),([3],[3]),([3],[3]),([4,5,3],[3,4,5]),([6,3],[3,6]),([3],[3]),([3],[3]),([9,3],[3,9]),([8,10,3],[3,8,10]),([11,3],[3,11]),([7,12,3,3],[3,7,12]),([3,13],[3,13])])
def slices_insertionSortOrdered_string.B4 : List Nat:=[0,0,3,7,15,15,63,127,15,15,527,1807,3855,8191,16383]
theorem slices_insertionSortOrdered_string.tab4 : rtab .any (opsOf Tryz.f249 4)=slices_insertionSortOrdered_string.T4:=by kernel_rfl
theorem slices_insertionSortOrdered_string.bits4 : aLq slices_insertionSortOrdered_string.T4.2 slices_insertionSortOrdered_string.B4=true:=by kernel_rfl
def slices_insertionSortOrdered_string.T6 : Bool×List (List Nat×List Nat):=(true,[([],[]),([],[]),([],[]),([],[]),([3],[3]),([],[]),([],[]),([6],[6]),([5,7],[5,7]),([8],[8]),([],[]),([],[]),([10,11],[10,11]),([12],[12]),([0,1,0,1,5,6,7,8,9,13],[0,1]),([14,9,0,1,5,6,7,8,9,13],[9,14]),([2,4,0,1,2,3,4,5,6,7,8,9,10,11,12,13,14,15],[2,4]),([16,13,15,0,1,2,3,4,5,6,7,8,9,10,11,12,13,14,15],[13,16])])
def slices_insertionSortOrdered_string.B6 : List Nat:=[0,0,0,0,8,0,0,64,224,480,0,0,3072,7168,16355,32739,65535,131071]
theorem slices_insertionSortOrdered_string.tab6 : rtab .any (opsOf Tryz.f249 6)=slices_insertionSortOrdered_string.T6:=by kernel_rfl
theorem slices_insertionSortOrdered_string.bits6 : aLq slices_insertionSortOrdered_string.T6.2 slices_insertionSortOrdered_string.B6=true:=by kernel_rfl
set_option maxHeartbeats 8000000 in
theorem slices_insertionSortOrdered_string.calls (k:Nat)(P0_:Nat→Prop)(u9000_:Value)(l0:List ByteArray)(a1:Int)(a2:Int)(r:List ByteArray)(w0 w:World)(hB:Below w0.heap.size w0 w)(ho0:Kd.R Kd.string 9 w w0.heap.size P0_ u9000_ l0)(h:slices_insertionSortOrdered_string.f k l0 a1 a2=some r) :
  Calls Tryz.prog 249 #[u9000_,.int .i64 a1,.int .i64 a2] w fun e w'=>e=.returned (.tuple #[])∧Kd.R Kd.string 9 w' w0.heap.size (fun k_=>(P0_ k_∨w.heap.size≤k_)) u9000_ r∧Below w0.heap.size w0 w'∧Kept w w' (fun k_=>P0_ k_):=by
 have HO0:=Qz.k (show Kd.R Kd.string 9 w w0.heap.size (fun k_=>(P0_ k_∨w.heap.size≤k_)) u9000_ l0 from Kd.R_mono ho0 (fun k_ hk=>(.inl hk)))
 have HK:=Qz.k (Kept.refl w (fun k_=>P0_ k_))
 have HW0:=Qz.k hB.size
 have HB:=Qz.k hB
 clear hB
 have H:(slices_insertionSortOrdered_string.l0 k l0 a1 a2 (wrap64 (a1+1)))=some r:=h
 clear h
 have H':=Qz.k H
 clear H
 go_enter Tryz.func249,Tryz.ntmps249
 go_wp2
 go_loopg [6] k (fun kq v6 w'=>∃ (x0_1:List ByteArray) (x6_1:Int),v6=.int .i64 x6_1∧Qz (slices_insertionSortOrdered_string.l0 kq x0_1 a1 a2 x6_1=some r)∧Qz (kq≤k)∧Qz (Kd.R Kd.string 9 w' w0.heap.size (fun k_=>(P0_ k_∨w.heap.size≤k_)) u9000_ x0_1)∧Qz (Kept w w' (fun k_=>P0_ k_))∧Qz (Below w0.heap.size w0 w'))
 case atStart=>exact⟨(l0),(wrap64 (a1+1)),(by first|rfl|(simp;done)|(simp [*];done)),H',⟨Nat.le_refl _⟩,⟨by(with_reducible repeat(first|apply Kd.akq|apply Kd.akk|apply Kd.amz));exact HO0.out⟩,⟨by repeat(first|(with_reducible first|exact HK.out|apply Kept.alloc|apply Kept.drewN|apply Kept.drew)|exact HK.out)⟩,⟨au_⟩⟩
 case round=>
  clear H'
  try clear c2
  try clear p2
  obtain⟨x0_1,x6_1,rfl,HA,HK1,HO_0,HK,HB⟩:=hrel
  cases gk with
  |zero=>exact absurd HA.out (by simp [slices_insertionSortOrdered_string.l0])
  |succ k1=>
   have H:=HA.out
   clear HA
   simp only [slices_insertionSortOrdered_string.l0]at H
   by_cases c4:x6_1<a2
   ·rw [if_pos c4]at H
    have c4b0:decide (x6_1<a2)=true:=decide_eq_true c4
    clear c4
    have H':=Qz.k H
    clear H
    go_wp2
    go_loopg [7] k1 (fun kq v7 w'=>∃ (x0_2:List ByteArray) (x7_2:Int),v7=.int .i64 x7_2∧Qz (slices_insertionSortOrdered_string.l1 kq x0_2 a1 a2 x6_1 x7_2=some r)∧Qz (kq≤k1)∧Qz (Kd.R Kd.string 9 w' w0.heap.size (fun k_=>(P0_ k_∨w.heap.size≤k_)) u9000_ x0_2)∧Qz (Kept w w' (fun k_=>P0_ k_))∧Qz (Below w0.heap.size w0 w'))
    case atStart=>exact⟨(x0_1),(x6_1),(by first|rfl|(simp;done)|(simp [*];done)),H',⟨Nat.le_refl _⟩,⟨by(with_reducible repeat(first|apply Kd.akq|apply Kd.akk|apply Kd.amz));exact HO_0.out⟩,⟨by repeat(first|(with_reducible first|exact HK.out|apply Kept.alloc|apply Kept.drewN|apply Kept.drew)|exact HK.out)⟩,⟨au_⟩⟩
    case round=>
     clear H'
     try clear c2
     try clear p2
     try clear c4
     try clear c4b0
     try clear p2
     obtain⟨x0_2,x7_2,rfl,HA,HK2,HO_0,HK,HB⟩:=hrel
     cases gk with
     |zero=>exact absurd HA.out (by simp [slices_insertionSortOrdered_string.l1])
     |succ k2=>
      have H:=HA.out
      clear HA
      simp only [slices_insertionSortOrdered_string.l1]at H
      by_cases c5:x7_2 > a1
      ·rw [if_pos c5]at H
       have c5b0:decide (a1<x7_2)=true:=decide_eq_true c5
       clear c5
       by_cases c6:0≤x7_2
       ·rw [if_pos c6]at H
        have c6b0:decide (0≤x7_2)=true:=decide_eq_true c6
        clear c6
        by_cases c7:x7_2<(x0_2.length:Int)
        ·rw [if_pos c7]at H
         have c7b0:decide (x7_2<(x0_2.length:Int))=true:=decide_eq_true c7
         clear c7
         obtain⟨ji8,hji8⟩:∃ j_:Int,(wrap64 (x7_2-1))=j_:=⟨_,rfl⟩
         replace H:(if 0≤(ji8)then(if(ji8)<(x0_2.length:Int)then((cmp_Less_string.f (rdOf ByteArray.empty x0_2 x7_2) (rdOf ByteArray.empty x0_2 (ji8))).bind fun t299=>(if t299=true then(slices_insertionSortOrdered_string.l1 k2 ((x0_2.set (x7_2:Int).toNat (rdOf ByteArray.empty x0_2 (ji8))).set ((ji8):Int).toNat (rdOf ByteArray.empty x0_2 x7_2)) a1 a2 x6_1 ji8)else(slices_insertionSortOrdered_string.l0 k2 x0_2 a1 a2 (wrap64 (x6_1+1)))))else(none))else(none))=some r:=by first|(rw [hji8]at H;exact H)|(simp only [hji8]at H ⊢;exact H)
         have hji8w:(IntKind.i64.wrap (x7_2-1))=ji8:=(abq _).trans hji8
         by_cases c9:0≤(ji8)
         ·rw [if_pos c9]at H
          have c9b0:decide (0≤(ji8))=true:=decide_eq_true c9
          clear c9
          by_cases c10:(ji8)<(x0_2.length:Int)
          ·rw [if_pos c10]at H
           have c10b0:decide ((ji8)<(x0_2.length:Int))=true:=decide_eq_true c10
           clear c10
           replace H:=Option.bind_eq_some_iff.mp H
           obtain⟨t299,A110,H⟩:=H
           replace H:(if t299=true then(slices_insertionSortOrdered_string.l1 k2 ((x0_2.set (x7_2:Int).toNat (rdOf ByteArray.empty x0_2 (ji8))).set ((ji8):Int).toNat (rdOf ByteArray.empty x0_2 x7_2)) a1 a2 x6_1 ji8)else(slices_insertionSortOrdered_string.l0 k2 x0_2 a1 a2 (wrap64 (x6_1+1))))=some r:=H
           have A11:=Qz.k A110
           clear A110
           by_cases c12:t299=true
           ·subst c12
            have H1:(slices_insertionSortOrdered_string.l1 k2 ((x0_2.set (x7_2:Int).toNat (rdOf ByteArray.empty x0_2 (ji8))).set ((ji8):Int).toNat (rdOf ByteArray.empty x0_2 x7_2)) a1 a2 x6_1 ji8)=some r:=by rw [if_pos rfl]at H;exact H
            clear H
            have H:=H1
            clear H1
            obtain⟨y302,hy302⟩:∃ y_:List ByteArray,y_=(x0_2.set (x7_2:Int).toNat (rdOf ByteArray.empty x0_2 (ji8))):=⟨_,rfl⟩
            replace H:(slices_insertionSortOrdered_string.l1 k2 (y302.set ((ji8):Int).toNat (rdOf ByteArray.empty x0_2 x7_2)) a1 a2 x6_1 ji8)=some r:=by first|(rw [hy302];with_reducible exact H)|(have H2_:=(Option.bind_some _ _).symm.trans H;rw [hy302];with_reducible exact H2_)|(have H2_:=(Option.bind_some _ _).symm.trans H;with_reducible exact H2_)|with_reducible exact H|(rw [hy302];exact H)|exact H
            have Ny302:=Qz.k hy302
            clear hy302
            obtain⟨y303,hy303⟩:∃ y_:List ByteArray,y_=(y302.set ((ji8):Int).toNat (rdOf ByteArray.empty x0_2 x7_2)):=⟨_,rfl⟩
            replace H:(slices_insertionSortOrdered_string.l1 k2 y303 a1 a2 x6_1 ji8)=some r:=by first|(rw [hy303];with_reducible exact H)|(have H2_:=(Option.bind_some _ _).symm.trans H;rw [hy303];with_reducible exact H2_)|(have H2_:=(Option.bind_some _ _).symm.trans H;with_reducible exact H2_)|with_reducible exact H|(rw [hy303];exact H)|exact H
            have Ny303:=Qz.k hy303
            clear hy303
            have H':=Qz.k H
            clear H
            try go_wp2
            have n0_:=Qz.k (Kd.amz HO_0.out)
            have n1_:=Qz.k (Kept.drew HK.out)
            have n2_:=Qz.k (aez HB.out)
            clear HO_0
            clear HK
            clear HB
            have HO_0:=n0_
            have HK:=n1_
            have HB:=n2_
            clear n0_ n1_ n2_
            obtain⟨Ao16,co16,eo16⟩:=Kd.afz HO_0.out
            (first|subst eo16|(injection eo16 with f1_ f2_ f3_;have f4_:=f1_.symm;have f5_:=f3_.symm;clear f1_ f2_ f3_;subst f4_;subst f5_))
            have p297:0≤(x7_2:Int):=of_decide_eq_true (by first|(with_reducible assumption)|assumption)
            have q297:x7_2<(x0_2.length:Int):=of_decide_eq_true (by first|(with_reducible assumption)|assumption)
            obtain⟨ad297,e297,hx297_0⟩:=Kd.aGz (Kd.ack HO_0.out).2.2 x7_2 p297 q297
            cases e297
            replace p297:=eq_true p297
            replace q297:=eq_true q297
            have p298:0≤((ji8):Int):=of_decide_eq_true (by first|(with_reducible assumption)|assumption)
            have q298:(ji8)<(x0_2.length:Int):=of_decide_eq_true (by first|(with_reducible assumption)|assumption)
            obtain⟨ad298,e298,hx298_0⟩:=Kd.aGz (Kd.ack HO_0.out).2.2 (ji8) p298 q298
            obtain rfl:ad297=ad298:=(by injection e298)
            replace p298:=eq_true p298
            replace q298:=eq_true q298
            refine axq (n:=15) (S:=fun w'=>w'.cell? (ad297.add (x7_2).toNat)=some (.string (rdOf ByteArray.empty x0_2 x7_2))∧w'.cell? (ad297.add ((ji8)).toNat)=some (.string (rdOf ByteArray.empty x0_2 (ji8)))) (ds:=[]) (bl 15 0) (by kernel_rfl) rfl rfl ⟨hx297_0,hx298_0⟩ (fun hHeld=>?_);refine aNk slices_insertionSortOrdered_string.tab4 slices_insertionSortOrdered_string.bits4 (fun HT_ HW_=>?_)
            generalize wr.drew=w15 at HO_0 HK HB hx297_0 hx298_0 hHeld ⊢
            refine pu_ 0 16 ?_ ?_ (bl 15 1) rfl rfl (amq HT_.out (by kernel_rfl)) ?_ ?_ ?_
            rotate_left 2
            ·intro w';go_simp;with_reducible rfl
            ·simp only [Act.put,putA,putZ,putS,abq,abk];rfl
            refine pu_ 1 17 ?_ ?_ (bl 15 3) rfl rfl (amq HT_.out (by kernel_rfl)) ?_ ?_ ?_
            rotate_left 2
            ·intro w';go_simp;with_reducible rfl
            ·simp only [Act.put,putA,putZ,putS,abq,abk];rfl
            refine pu_ 2 18 ?_ ?_ (bl 15 7) rfl rfl (amq HT_.out (by kernel_rfl)) ?_ ?_ ?_
            rotate_left 2
            ·intro w';go_simp;with_reducible rfl
            ·simp only [Act.put,putA,putZ,putS,abq,abk];rfl
            refine pu_ 3 19 ?_ ?_ (bl 15 15) rfl rfl (amq HT_.out (by kernel_rfl)) ?_ ?_ ?_
            rotate_left 2
            ·intro w';go_simp;with_reducible rfl
            ·simp only [Act.put,putA,putZ,putS,abq,abk];rfl
            refine pu_ 4 20 ?_ ?_ (bl 15 31) rfl rfl (amq HT_.out (by kernel_rfl)) ?_ ?_ ?_
            rotate_left 2
            ·intro w';go_simp;with_reducible rfl
            ·simp only [Act.put,putA,putZ,putS,abq,abk];rfl
            refine pu_ 5 21 ?_ ?_ (bl 15 63) rfl rfl (amq HT_.out (by kernel_rfl)) ?_ ?_ ?_
            rotate_left 2
            ·intro w';go_simp;with_reducible rfl
            ·simp only [Act.put,putA,putZ,putS,abq,abk];rfl
            refine pu_ 6 22 ?_ ?_ (bl 15 127) rfl rfl (amq HT_.out (by kernel_rfl)) ?_ ?_ ?_
            rotate_left 2
            ·intro w';go_simp;with_reducible rfl
            ·simp only [Act.put,putA,putZ,putS,abq,abk];rfl
            refine pu_ 8 24 ?_ ?_ (bl 15 383) rfl rfl (amq HT_.out (by kernel_rfl)) ?_ ?_ ?_
            rotate_left 2
            ·intro w';go_simp;with_reducible rfl
            ·simp only [Act.put,putA,putZ,putS,abq,abk];rfl
            refine pu_ 9 25 ?_ ?_ (bl 15 895) rfl rfl (amq HT_.out (by kernel_rfl)) ?_ ?_ ?_
            rotate_left 2
            ·intro w';go_simp;with_reducible rfl
            ·simp only [Act.put,putA,putZ,putS,abq,abk];rfl
            refine pu_ 10 26 ?_ ?_ (bl 15 1919) rfl rfl (amq HT_.out (by kernel_rfl)) ?_ ?_ ?_
            rotate_left 2
            ·intro w';go_simp;with_reducible rfl
            ·simp only [Act.put,putA,putZ,putS,abq,abk];rfl
            refine pu_ 11 27 ?_ ?_ (bl 15 3967) rfl rfl (amq HT_.out (by kernel_rfl)) ?_ ?_ ?_
            rotate_left 2
            ·intro w';go_simp;with_reducible rfl
            ·simp only [Act.put,putA,putZ,putS,abq,abk];rfl
            refine tk_ 7 23 ?_ ?_ (bl 15 4095) rfl rfl (bgz HT_.out HW_.out (by kernel_rfl)) hHeld ?_ ?_ ?_
            rotate_left 2
            ·rintro w' ⟨s0,s1⟩;go_simp;with_reducible rfl
            ·simp only [Act.put,putA,putZ,putS,abq,abk];rfl
            refine tk_ 12 28 ?_ ?_ (bl 15 8191) rfl rfl (bgz HT_.out HW_.out (by kernel_rfl)) hHeld ?_ ?_ ?_
            rotate_left 2
            ·rintro w' ⟨s0,s1⟩;go_simp;with_reducible rfl
            ·simp only [Act.put,putA,putZ,putS,abq,abk];rfl
            refine one_ (i:=13) (N:=some 29) (bl 15 16383) rfl rfl (one_of HT_.out (by kernel_rfl)) (by decide) (fun K hK=>?_)
            refine aFq Tryz.func255 (by kernel_rfl) rfl #[.string (rdOf ByteArray.empty x0_2 x7_2),.string (rdOf ByteArray.empty x0_2 (ji8))] (by rfl) rfl rfl (by(try simp only [List.map_toArray,List.map_cons,List.map_nil]);first|done|(simp only [hji8];rfl)|rfl|(simp only [List.length_drop,List.length_take];rfl)) ?_
            with_reducible refine(cmp_Less_string.calls (rdOf ByteArray.empty x0_2 x7_2) (rdOf ByteArray.empty x0_2 (ji8)) true _ A11.out).mono ?_
            rintro e w' ⟨rfl,⟨nd,rfl⟩⟩
            refine⟨_,rfl,?_⟩
            refine hK.out _ _ ⟨hHeld.1,hHeld.2⟩ (fun hHeld=>?_)
            clear hK K
            refine aHz (a':=?_) ?_ ?_
            rotate_left
            ·show Act.put _ (some 29) _=_
             simp only [Act.put,putA,putZ,putS,abq,abk]
             rfl
            refine pu_ 14 30 ?_ ?_ (bl 15 32767) rfl rfl (amq HT_.out (by kernel_rfl)) ?_ ?_ ?_
            rotate_left 2
            ·intro w';go_simp;with_reducible rfl
            ·simp only [Act.put,putA,putZ,putS,abq,abk];rfl
            refine aPz (done_of HT_.out (by kernel_rfl)) ?_
            try go_wp2
            (try(rw [b2k w15];generalize hq_:World.drewN w15 _=w15;have n0_:Qz (Kd.R Kd.string 9 w15 w0.heap.size (fun k_=>(P0_ k_∨w.heap.size≤k_)) (.slice (some ad297) x0_2.length co16) x0_2):=⟨by rw [←hq_];exact(al_ HO_0.out)⟩;have n1_:Qz (Kept w w15 (fun k_=>P0_ k_)):=⟨by rw [←hq_];exact(by repeat(first|(with_reducible first|exact HK.out|apply Kept.alloc|apply Kept.drewN|apply Kept.drew)|exact HK.out))⟩;have n2_:Qz (Below w0.heap.size w0 w15):=⟨by rw [←hq_];exact au_⟩;clear HO_0 HK HB hq_;have HO_0:=n0_;have HK:=n1_;have HB:=n2_;clear n0_ n1_ n2_))
            have n0_:=Qz.k (Kd.amz HO_0.out)
            have n1_:=Qz.k (Kept.drew HK.out)
            have n2_:=Qz.k (aez HB.out)
            clear HO_0
            clear HK
            clear HB
            have HO_0:=n0_
            have HK:=n1_
            have HB:=n2_
            clear n0_ n1_ n2_
            have p300:0≤((ji8):Int):=of_decide_eq_true (by first|(with_reducible assumption)|assumption)
            have q300:(ji8)<(x0_2.length:Int):=of_decide_eq_true (by first|(with_reducible assumption)|assumption)
            obtain⟨ad300,e300,hx300_0⟩:=Kd.aGz (Kd.ack HO_0.out).2.2 (ji8) p300 q300
            obtain rfl:ad297=ad300:=(by injection e300)
            replace p300:=eq_true p300
            replace q300:=eq_true q300
            have p301:0≤(x7_2:Int):=of_decide_eq_true (by first|(with_reducible assumption)|assumption)
            have q301:x7_2<(x0_2.length:Int):=of_decide_eq_true (by first|(with_reducible assumption)|assumption)
            obtain⟨ad301,e301,hx301_0⟩:=Kd.aGz (Kd.ack HO_0.out).2.2 x7_2 p301 q301
            obtain rfl:ad297=ad301:=(by injection e301)
            replace p301:=eq_true p301
            replace q301:=eq_true q301
            have p13:0≤(x7_2:Int):=of_decide_eq_true (by first|(with_reducible assumption)|assumption)
            have q13:(x7_2:Int)<((x0_2.length:Int):Int):=of_decide_eq_true (by first|(with_reducible assumption)|assumption)
            obtain⟨go13,co13,eo13,gb13,gl13,cl13,HG13⟩:=Kd.bjz HO_0.out (by omega)
            (first|cases eo13|(injection eo13 with ea_ en_ ec_;(first|subst ea_|(injection ea_ with ea_;subst ea_));subst ec_;clear en_))
            have GB13:=Qz.k gb13
            have GG13:=Qz.k HG13
            clear gb13 gl13 HG13
            have HMgo13:=Qz.k (show(P0_ go13∨w.heap.size≤go13)from(HO_0.out.1 _ rfl))
            (first|simp only [add_plain]at hx297_0|skip)
            (first|simp only [add_plain]at hx298_0|skip)
            (first|simp only [add_plain]at hx300_0|skip)
            (first|simp only [add_plain]at hx301_0|skip)
            obtain⟨hx13_0,hf13_0⟩:=Kd.aUq (⟨#[]⟩:ByteArray) HO_0.out (x7_2:Int) p13 q13
            replace p13:=eq_true p13
            replace q13:=eq_true q13
            have HP18:=Kd.bCq HO_0.out (x7_2:Int) (rdOf ByteArray.empty x0_2 (ji8))
            rw [←Ny302.out]at HP18
            have HQ18:=Qz.k HP18
            clear HP18
            have p14:0≤((ji8):Int):=of_decide_eq_true (by first|(with_reducible assumption)|assumption)
            have q14:((ji8):Int)<((x0_2.length:Int):Int):=of_decide_eq_true (by first|(with_reducible assumption)|assumption)
            obtain⟨hx14_0,hf14_0⟩:=Kd.aUq (⟨#[]⟩:ByteArray) HQ18.out ((ji8):Int) p14 q14
            replace p14:=eq_true p14
            replace q14:=eq_true q14
            have HP19:=Kd.bCq HQ18.out ((ji8):Int) (rdOf ByteArray.empty x0_2 x7_2)
            rw [←Ny303.out]at HP19
            have HQ19:=Qz.k HP19
            clear HP19
            refine axq (n:=18) (S:=fun w'=>w'.cell? ⟨go13,((ji8)).toNat,none⟩=some (.string (rdOf ByteArray.empty x0_2 (ji8)))∧w'.cell? ⟨go13,(x7_2).toNat,none⟩=some (.string (rdOf ByteArray.empty x0_2 x7_2))) (ds:=[15,17]) (bl 18 0) (by kernel_rfl) rfl rfl ⟨hx300_0,hx301_0⟩ (fun hHeld=>?_);refine aNk slices_insertionSortOrdered_string.tab6 slices_insertionSortOrdered_string.bits6 (fun HT_ HW_=>?_)
            generalize w15.drew=w17 at HO_0 HK HB GG13 HQ18 HQ19 hf13_0 hf14_0 hx13_0 hx14_0 hx297_0 hx298_0 hx300_0 hx301_0 hHeld ⊢
            refine pu_ 0 33 ?_ ?_ (bl 18 1) rfl rfl (amq HT_.out (by kernel_rfl)) ?_ ?_ ?_
            rotate_left 2
            ·intro w';go_simp;with_reducible rfl
            ·simp only [Act.put,putA,putZ,putS,abq,abk];rfl
            refine pu_ 1 34 ?_ ?_ (bl 18 3) rfl rfl (amq HT_.out (by kernel_rfl)) ?_ ?_ ?_
            rotate_left 2
            ·intro w';go_simp;with_reducible rfl
            ·simp only [Act.put,putA,putZ,putS,abq,abk];rfl
            refine pu_ 2 35 ?_ ?_ (bl 18 7) rfl rfl (amq HT_.out (by kernel_rfl)) ?_ ?_ ?_
            rotate_left 2
            ·intro w';go_simp;with_reducible rfl
            ·simp only [Act.put,putA,putZ,putS,abq,abk];rfl
            refine pu_ 3 36 ?_ ?_ (bl 18 15) rfl rfl (amq HT_.out (by kernel_rfl)) ?_ ?_ ?_
            rotate_left 2
            ·intro w';go_simp;with_reducible rfl
            ·simp only [Act.put,putA,putZ,putS,abq,abk];rfl
            refine pu_ 4 37 ?_ ?_ (bl 18 31) rfl rfl (amq HT_.out (by kernel_rfl)) ?_ ?_ ?_
            rotate_left 2
            ·intro w';go_simp;with_reducible rfl
            ·simp only [Act.put,putA,putZ,putS,abq,abk];rfl
            refine pu_ 5 38 ?_ ?_ (bl 18 63) rfl rfl (amq HT_.out (by kernel_rfl)) ?_ ?_ ?_
            rotate_left 2
            ·intro w';go_simp;with_reducible rfl
            ·simp only [Act.put,putA,putZ,putS,abq,abk];rfl
            refine pu_ 6 39 ?_ ?_ (bl 18 127) rfl rfl (amq HT_.out (by kernel_rfl)) ?_ ?_ ?_
            rotate_left 2
            ·intro w';go_simp;with_reducible rfl
            ·simp only [Act.put,putA,putZ,putS,abq,abk];rfl
            refine pu_ 7 40 ?_ ?_ (bl 18 255) rfl rfl (amq HT_.out (by kernel_rfl)) ?_ ?_ ?_
            rotate_left 2
            ·intro w';go_simp;with_reducible rfl
            ·simp only [Act.put,putA,putZ,putS,abq,abk];rfl
            refine pu_ 8 41 ?_ ?_ (bl 18 511) rfl rfl (amq HT_.out (by kernel_rfl)) ?_ ?_ ?_
            rotate_left 2
            ·intro w';go_simp;with_reducible rfl
            ·simp only [Act.put,putA,putZ,putS,abq,abk];rfl
            refine pu_ 10 43 ?_ ?_ (bl 18 1535) rfl rfl (amq HT_.out (by kernel_rfl)) ?_ ?_ ?_
            rotate_left 2
            ·intro w';go_simp;with_reducible rfl
            ·simp only [Act.put,putA,putZ,putS,abq,abk];rfl
            refine pu_ 11 44 ?_ ?_ (bl 18 3583) rfl rfl (amq HT_.out (by kernel_rfl)) ?_ ?_ ?_
            rotate_left 2
            ·intro w';go_simp;with_reducible rfl
            ·simp only [Act.put,putA,putZ,putS,abq,abk];rfl
            refine pu_ 12 45 ?_ ?_ (bl 18 7679) rfl rfl (amq HT_.out (by kernel_rfl)) ?_ ?_ ?_
            rotate_left 2
            ·intro w';go_simp;with_reducible rfl
            ·simp only [Act.put,putA,putZ,putS,abq,abk];rfl
            refine tk_ 9 42 ?_ ?_ (bl 18 8191) rfl rfl (bgz HT_.out HW_.out (by kernel_rfl)) hHeld ?_ ?_ ?_
            rotate_left 2
            ·rintro w' ⟨s0,s1⟩;go_simp;with_reducible rfl
            ·simp only [Act.put,putA,putZ,putS,abq,abk];rfl
            refine tk_ 13 46 ?_ ?_ (bl 18 16383) rfl rfl (bgz HT_.out HW_.out (by kernel_rfl)) hHeld ?_ ?_ ?_
            rotate_left 2
            ·rintro w' ⟨s0,s1⟩;go_simp;with_reducible rfl
            ·simp only [Act.put,putA,putZ,putS,abq,abk];rfl
            refine pu_ 14 47 ?_ ?_ (bl 18 32767) rfl rfl (amq HT_.out (by kernel_rfl)) ?_ ?_ ?_
            rotate_left 2
            ·intro w';go_simp;with_reducible rfl
            ·simp only [Act.put,putA,putZ,putS,abq,abk];rfl
            refine bdz (i:=15) (N:=none) (bl 18 65535) rfl rfl (one_of HT_.out (by kernel_rfl)) (by decide) (fun K hK=>?_)
            refine bbk (w1:=?_) (by rfl) rfl ?_ ?_
            rotate_left
            ·go_simp
             rfl
            refine hK.out _ _ ?_
            clear hK K
            refine pu_ 16 48 ?_ ?_ (bl 18 131071) rfl rfl (amq HT_.out (by kernel_rfl)) ?_ ?_ ?_
            rotate_left 2
            ·intro w';go_simp;with_reducible rfl
            ·simp only [Act.put,putA,putZ,putS,abq,abk];rfl
            refine bdz (i:=17) (N:=none) (bl 18 262143) rfl rfl (one_of HT_.out (by kernel_rfl)) (by decide) (fun K hK=>?_)
            refine bbk (w1:=?_) (by rfl) rfl ?_ ?_
            rotate_left
            ·go_simp
             rfl
            refine hK.out _ _ ?_
            clear hK K
            refine aPz (done_of HT_.out (by kernel_rfl)) ?_
            try go_wp2
            go_roundg k2
            case measure=>have:=HK1.out;have:=HK2.out;omega
            case rel=>exact⟨(y303),(ji8),(by first|rfl|(simp;done)|(simp only [←hji8] <;>(first|rfl|simp))|(simp [*];done)),H',⟨by have:=HK1.out;have:=HK2.out;omega⟩,⟨by(with_reducible repeat(first|apply Kd.akq|apply Kd.akk|apply Kd.amz));exact HQ19.out⟩,⟨by repeat(first|(with_reducible first|exact HK.out|apply Kept.alloc|apply Kept.drewN|apply Kept.drew|refine Kept.setCell ?_ HMgo13.out _|refine Kept.setCell ?_ HMgo13.out _)|exact HK.out)⟩,⟨by repeat(first|(with_reducible first|exact HB.out|apply aaq|apply adz|apply aez|refine adq ?_ GB13.out|refine adq ?_ GB13.out)|exact HB.out)⟩⟩
           ·replace c12:=Bool.eq_false_iff.mpr c12
            subst c12
            have H1:(slices_insertionSortOrdered_string.l0 k2 x0_2 a1 a2 (wrap64 (x6_1+1)))=some r:=by rw [if_neg (show ¬ (false=true)by decide)]at H;exact H
            clear H
            have H:=H1
            clear H1
            have H':=Qz.k H
            clear H
            try go_wp2
            have n0_:=Qz.k (Kd.amz HO_0.out)
            have n1_:=Qz.k (Kept.drew HK.out)
            have n2_:=Qz.k (aez HB.out)
            clear HO_0
            clear HK
            clear HB
            have HO_0:=n0_
            have HK:=n1_
            have HB:=n2_
            clear n0_ n1_ n2_
            obtain⟨Ao21,co21,eo21⟩:=Kd.afz HO_0.out
            (first|subst eo21|(injection eo21 with f1_ f2_ f3_;have f4_:=f1_.symm;have f5_:=f3_.symm;clear f1_ f2_ f3_;subst f4_;subst f5_))
            have p297:0≤(x7_2:Int):=of_decide_eq_true (by first|(with_reducible assumption)|assumption)
            have q297:x7_2<(x0_2.length:Int):=of_decide_eq_true (by first|(with_reducible assumption)|assumption)
            obtain⟨ad297,e297,hx297_0⟩:=Kd.aGz (Kd.ack HO_0.out).2.2 x7_2 p297 q297
            cases e297
            replace p297:=eq_true p297
            replace q297:=eq_true q297
            have p298:0≤((ji8):Int):=of_decide_eq_true (by first|(with_reducible assumption)|assumption)
            have q298:(ji8)<(x0_2.length:Int):=of_decide_eq_true (by first|(with_reducible assumption)|assumption)
            obtain⟨ad298,e298,hx298_0⟩:=Kd.aGz (Kd.ack HO_0.out).2.2 (ji8) p298 q298
            obtain rfl:ad297=ad298:=(by injection e298)
            replace p298:=eq_true p298
            replace q298:=eq_true q298
            refine axq (n:=15) (S:=fun w'=>w'.cell? (ad297.add (x7_2).toNat)=some (.string (rdOf ByteArray.empty x0_2 x7_2))∧w'.cell? (ad297.add ((ji8)).toNat)=some (.string (rdOf ByteArray.empty x0_2 (ji8)))) (ds:=[]) (bl 15 0) (by kernel_rfl) rfl rfl ⟨hx297_0,hx298_0⟩ (fun hHeld=>?_);refine aNk slices_insertionSortOrdered_string.tab4 slices_insertionSortOrdered_string.bits4 (fun HT_ HW_=>?_)
            generalize wr.drew=w20 at HO_0 HK HB hx297_0 hx298_0 hHeld ⊢
            refine pu_ 0 16 ?_ ?_ (bl 15 1) rfl rfl (amq HT_.out (by kernel_rfl)) ?_ ?_ ?_
            rotate_left 2
            ·intro w';go_simp;with_reducible rfl
            ·simp only [Act.put,putA,putZ,putS,abq,abk];rfl
            refine pu_ 1 17 ?_ ?_ (bl 15 3) rfl rfl (amq HT_.out (by kernel_rfl)) ?_ ?_ ?_
            rotate_left 2
            ·intro w';go_simp;with_reducible rfl
            ·simp only [Act.put,putA,putZ,putS,abq,abk];rfl
            refine pu_ 2 18 ?_ ?_ (bl 15 7) rfl rfl (amq HT_.out (by kernel_rfl)) ?_ ?_ ?_
            rotate_left 2
            ·intro w';go_simp;with_reducible rfl
            ·simp only [Act.put,putA,putZ,putS,abq,abk];rfl
            refine pu_ 3 19 ?_ ?_ (bl 15 15) rfl rfl (amq HT_.out (by kernel_rfl)) ?_ ?_ ?_
            rotate_left 2
            ·intro w';go_simp;with_reducible rfl
            ·simp only [Act.put,putA,putZ,putS,abq,abk];rfl
            refine pu_ 4 20 ?_ ?_ (bl 15 31) rfl rfl (amq HT_.out (by kernel_rfl)) ?_ ?_ ?_
            rotate_left 2
            ·intro w';go_simp;with_reducible rfl
            ·simp only [Act.put,putA,putZ,putS,abq,abk];rfl
            refine pu_ 5 21 ?_ ?_ (bl 15 63) rfl rfl (amq HT_.out (by kernel_rfl)) ?_ ?_ ?_
            rotate_left 2
            ·intro w';go_simp;with_reducible rfl
            ·simp only [Act.put,putA,putZ,putS,abq,abk];rfl
            refine pu_ 6 22 ?_ ?_ (bl 15 127) rfl rfl (amq HT_.out (by kernel_rfl)) ?_ ?_ ?_
            rotate_left 2
            ·intro w';go_simp;with_reducible rfl
            ·simp only [Act.put,putA,putZ,putS,abq,abk];rfl
            refine pu_ 8 24 ?_ ?_ (bl 15 383) rfl rfl (amq HT_.out (by kernel_rfl)) ?_ ?_ ?_
            rotate_left 2
            ·intro w';go_simp;with_reducible rfl
            ·simp only [Act.put,putA,putZ,putS,abq,abk];rfl
            refine pu_ 9 25 ?_ ?_ (bl 15 895) rfl rfl (amq HT_.out (by kernel_rfl)) ?_ ?_ ?_
            rotate_left 2
            ·intro w';go_simp;with_reducible rfl
            ·simp only [Act.put,putA,putZ,putS,abq,abk];rfl
            refine pu_ 10 26 ?_ ?_ (bl 15 1919) rfl rfl (amq HT_.out (by kernel_rfl)) ?_ ?_ ?_
            rotate_left 2
            ·intro w';go_simp;with_reducible rfl
            ·simp only [Act.put,putA,putZ,putS,abq,abk];rfl
            refine pu_ 11 27 ?_ ?_ (bl 15 3967) rfl rfl (amq HT_.out (by kernel_rfl)) ?_ ?_ ?_
            rotate_left 2
            ·intro w';go_simp;with_reducible rfl
            ·simp only [Act.put,putA,putZ,putS,abq,abk];rfl
            refine tk_ 7 23 ?_ ?_ (bl 15 4095) rfl rfl (bgz HT_.out HW_.out (by kernel_rfl)) hHeld ?_ ?_ ?_
            rotate_left 2
            ·rintro w' ⟨s0,s1⟩;go_simp;with_reducible rfl
            ·simp only [Act.put,putA,putZ,putS,abq,abk];rfl
            refine tk_ 12 28 ?_ ?_ (bl 15 8191) rfl rfl (bgz HT_.out HW_.out (by kernel_rfl)) hHeld ?_ ?_ ?_
            rotate_left 2
            ·rintro w' ⟨s0,s1⟩;go_simp;with_reducible rfl
            ·simp only [Act.put,putA,putZ,putS,abq,abk];rfl
            refine one_ (i:=13) (N:=some 29) (bl 15 16383) rfl rfl (one_of HT_.out (by kernel_rfl)) (by decide) (fun K hK=>?_)
            refine aFq Tryz.func255 (by kernel_rfl) rfl #[.string (rdOf ByteArray.empty x0_2 x7_2),.string (rdOf ByteArray.empty x0_2 (ji8))] (by rfl) rfl rfl (by(try simp only [List.map_toArray,List.map_cons,List.map_nil]);first|done|(simp only [hji8];rfl)|rfl|(simp only [List.length_drop,List.length_take];rfl)) ?_
            with_reducible refine(cmp_Less_string.calls (rdOf ByteArray.empty x0_2 x7_2) (rdOf ByteArray.empty x0_2 (ji8)) false _ A11.out).mono ?_
            rintro e w' ⟨rfl,⟨nd,rfl⟩⟩
            refine⟨_,rfl,?_⟩
            refine hK.out _ _ ⟨hHeld.1,hHeld.2⟩ (fun hHeld=>?_)
            clear hK K
            refine aHz (a':=?_) ?_ ?_
            rotate_left
            ·show Act.put _ (some 29) _=_
             simp only [Act.put,putA,putZ,putS,abq,abk]
             rfl
            refine pu_ 14 30 ?_ ?_ (bl 15 32767) rfl rfl (amq HT_.out (by kernel_rfl)) ?_ ?_ ?_
            rotate_left 2
            ·intro w';go_simp;with_reducible rfl
            ·simp only [Act.put,putA,putZ,putS,abq,abk];rfl
            refine aPz (done_of HT_.out (by kernel_rfl)) ?_
            try go_wp2
            go_roundg k2
            case measure=>have:=HK1.out;have:=HK2.out;omega
            case rel=>exact⟨(x0_2),(wrap64 (x6_1+1)),(by first|rfl|(simp;done)|(simp [*];done)),H',⟨by have:=HK1.out;have:=HK2.out;omega⟩,⟨by(with_reducible repeat(first|apply Kd.akq|apply Kd.akk|apply Kd.amz));exact HO_0.out⟩,⟨by repeat(first|(with_reducible first|exact HK.out|apply Kept.alloc|apply Kept.drewN|apply Kept.drew)|exact HK.out)⟩,⟨au_⟩⟩
          ·rw [if_neg c10]at H
           exact absurd H (by simp)
         ·rw [if_neg c9]at H
          exact absurd H (by simp)
        ·rw [if_neg c7]at H
         exact absurd H (by simp)
       ·rw [if_neg c6]at H
        exact absurd H (by simp)
      ·rw [if_neg c5]at H
       have c5b0:decide (a1<x7_2)=false:=decide_eq_false c5
       clear c5
       have H':=Qz.k H
       clear H
       try go_wp2
       have n0_:=Qz.k (Kd.amz HO_0.out)
       have n1_:=Qz.k (Kept.drew HK.out)
       have n2_:=Qz.k (aez HB.out)
       clear HO_0
       clear HK
       clear HB
       have HO_0:=n0_
       have HK:=n1_
       have HB:=n2_
       clear n0_ n1_ n2_
       refine axq (n:=15) (S:=fun w'=>True) (ds:=[]) (bl 15 0) (by kernel_rfl) rfl rfl trivial (fun hHeld=>?_);refine aNk slices_insertionSortOrdered_string.tab4 slices_insertionSortOrdered_string.bits4 (fun HT_ HW_=>?_)
       generalize wr.drew=w22 at HO_0 HK HB hHeld ⊢
       refine pu_ 0 16 ?_ ?_ (bl 15 1) rfl rfl (amq HT_.out (by kernel_rfl)) ?_ ?_ ?_
       rotate_left 2
       ·intro w';go_simp;with_reducible rfl
       ·simp only [Act.put,putA,putZ,putS,abq,abk];rfl
       refine pu_ 1 17 ?_ ?_ (bl 15 3) rfl rfl (amq HT_.out (by kernel_rfl)) ?_ ?_ ?_
       rotate_left 2
       ·intro w';go_simp;with_reducible rfl
       ·simp only [Act.put,putA,putZ,putS,abq,abk];rfl
       refine pu_ 2 18 ?_ ?_ (bl 15 7) rfl rfl (amq HT_.out (by kernel_rfl)) ?_ ?_ ?_
       rotate_left 2
       ·intro w';go_simp;with_reducible rfl
       ·simp only [Act.put,putA,putZ,putS,abq,abk];rfl
       refine pu_ 3 19 ?_ ?_ (bl 15 15) rfl rfl (amq HT_.out (by kernel_rfl)) ?_ ?_ ?_
       rotate_left 2
       ·intro w';go_simp;with_reducible rfl
       ·simp only [Act.put,putA,putZ,putS,abq,abk];rfl
       refine un_ 4 20 ?_ (bl 15 31) rfl rfl (amq HT_.out (by kernel_rfl)) ?_ ?_
       rotate_left
       ·simp only [Act.put,putA,putZ,putS,abq,abk];rfl
       refine un_ 5 21 ?_ (bl 15 63) rfl rfl (amq HT_.out (by kernel_rfl)) ?_ ?_
       rotate_left
       ·simp only [Act.put,putA,putZ,putS,abq,abk];rfl
       refine un_ 6 22 ?_ (bl 15 127) rfl rfl (amq HT_.out (by kernel_rfl)) ?_ ?_
       rotate_left
       ·simp only [Act.put,putA,putZ,putS,abq,abk];rfl
       refine un_ 7 23 ?_ (bl 15 255) rfl rfl (amq HT_.out (by kernel_rfl)) ?_ ?_
       rotate_left
       ·simp only [Act.put,putA,putZ,putS,abq,abk];rfl
       refine un_ 8 24 ?_ (bl 15 511) rfl rfl (amq HT_.out (by kernel_rfl)) ?_ ?_
       rotate_left
       ·simp only [Act.put,putA,putZ,putS,abq,abk];rfl
       refine un_ 9 25 ?_ (bl 15 1023) rfl rfl (amq HT_.out (by kernel_rfl)) ?_ ?_
       rotate_left
       ·simp only [Act.put,putA,putZ,putS,abq,abk];rfl
       refine un_ 10 26 ?_ (bl 15 2047) rfl rfl (amq HT_.out (by kernel_rfl)) ?_ ?_
       rotate_left
       ·simp only [Act.put,putA,putZ,putS,abq,abk];rfl
       refine un_ 11 27 ?_ (bl 15 4095) rfl rfl (amq HT_.out (by kernel_rfl)) ?_ ?_
       rotate_left
       ·simp only [Act.put,putA,putZ,putS,abq,abk];rfl
       refine un_ 12 28 ?_ (bl 15 8191) rfl rfl (amq HT_.out (by kernel_rfl)) ?_ ?_
       rotate_left
       ·simp only [Act.put,putA,putZ,putS,abq,abk];rfl
       refine un_ 13 29 ?_ (bl 15 16383) rfl rfl (amq HT_.out (by kernel_rfl)) ?_ ?_
       rotate_left
       ·simp only [Act.put,putA,putZ,putS,abq,abk];rfl
       refine pu_ 14 30 ?_ ?_ (bl 15 32767) rfl rfl (amq HT_.out (by kernel_rfl)) ?_ ?_ ?_
       rotate_left 2
       ·intro w';go_simp;with_reducible rfl
       ·simp only [Act.put,putA,putZ,putS,abq,abk];rfl
       refine aPz (done_of HT_.out (by kernel_rfl)) ?_
       try go_wp2
       go_roundg k2
       case measure=>have:=HK1.out;have:=HK2.out;omega
       case rel=>exact⟨(x0_2),(wrap64 (x6_1+1)),(by first|rfl|(simp;done)|(simp [*];done)),H',⟨by have:=HK1.out;have:=HK2.out;omega⟩,⟨by(with_reducible repeat(first|apply Kd.akq|apply Kd.akk|apply Kd.amz));exact HO_0.out⟩,⟨by repeat(first|(with_reducible first|exact HK.out|apply Kept.alloc|apply Kept.drewN|apply Kept.drew)|exact HK.out)⟩,⟨au_⟩⟩
   ·rw [if_neg c4]at H
    have c4b0:decide (x6_1<a2)=false:=decide_eq_false c4
    clear c4
    obtain rfl:=Option.some.inj H
    go_wp2
    first|go_end0|((try simp only [Exit.inBlock,Exit.then]);refine bodyPost_ret (results_none rfl _ _ _) rfl ?_)
    exact⟨by first|rfl|(simp [aek,aeq] <;> rfl)|(simp [*,aek,aeq] <;> rfl),by(with_reducible repeat(first|apply Kd.akq|apply Kd.akk|apply Kd.amz));exact HO_0.out,au_,by repeat(first|(with_reducible first|exact HK.out|apply Kept.alloc|apply Kept.drewN|apply Kept.drew)|exact HK.out)⟩
end Go.Proofs.YthggdomocichdaaGreatDoor.P
