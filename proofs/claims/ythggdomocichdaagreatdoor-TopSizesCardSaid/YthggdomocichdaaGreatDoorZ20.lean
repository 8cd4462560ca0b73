/- Put together: Px9, Gfit, Gbit, Genc, Px10, Sha1, Sha2, Sha3, Sha4, Sha5. -/
import Derived.Test.YthggdomocichdaaGreatDoorZ18
import Derived.Test.YthggdomocichdaaGreatDoorZ21
set_option maxRecDepth 100000
set_option linter.unusedVariables false
set_option linter.unusedSimpArgs false
namespace Go.Proofs.YthggdomocichdaaGreatDoor.P
open Go.RowKit Go.Proofs.YthggdomocichdaaGreatDoorW.PrintWords Go.Proofs.YthggdomocichdaaGreatDoorW.PrintLast Go.Proofs.YthggdomocichdaaGreatDoorW.PrintMore
attribute [local go_sem] awq awz aCq aCz azk azq aFz aEk
def gorilla_none.f  : Option (Int×Int):=some ((-1),0)
set_option maxHeartbeats 8000000 in
theorem gorilla_none.calls  (r1:Int) (r2:Int) (w:World) (h:gorilla_none.f  = some (r1,r2)) :
  Calls Tryz.prog 242 #[] w fun e w'=>e=.returned (.agg #[.int .i64 r1,.int .i64 r2])∧Below w.heap.size w w':=by
 have hu242:=Tryz.underlying242
 have HB:=Qz.k (Below.refl w.heap.size w)
 have H:(some ((-1),0))=some (r1,r2):=h
 clear h
 simp only [Option.some.injEq,Prod.mk.injEq]at H
 obtain⟨rfl,rfl⟩:=H
 go_enter Tryz.func242,Tryz.ntmps242
 go_wp2_with (first|((with_reducible refine ahk (N:=0) rfl ?_);refine aik ?hg (N:=0) ?hd (cs:=#[.int .i64 0,.int .i64 0]) (t:=242) ?hr ?_;(case hd=>rfl);(case hg=>rfl);(case hr=>first|(go_simp;done)|(go_simp;rfl));intro gb246 hg w1 hbox hb;have n0_:=Qz.k (aaz au_ hb);have n1_:=Qz.k (hbox);have n2_:=Qz.k ((by rw [hg];exact(afq au_):w.heap.size≤gb246));have n3_:=Qz.k ((by rw [hg];exact(afq au_):w.heap.size≤gb246));clear HB;have HB:=n0_;have BK246:=n1_;have GW246:=n2_;have GE246:=n3_;clear n0_ n1_ n2_ n3_;clear hb hbox hg;have hcz2_0:w1.cell? ⟨gb246,0,none⟩=some (.int .i64 0):=(aak BK246.out 0).trans rfl;have hcz2_1:w1.cell? ⟨gb246,1,none⟩=some (.int .i64 0):=(aak BK246.out 1).trans rfl;have hfz2_0:=afk BK246.out 0;have hfz2_1:=afk BK246.out 1))
 refine bodyPost_ret (results_cell_row rfl _ _ gb246 242 #[.int .i64 (-1),.int .i64 0] (0,0) _ rfl (by(with_reducible repeat(first|refine aoq ?_ _|refine aoz ?_|refine aok ?_ _));refine anq (cs:=#[.int .i64 (-1),.int .i64 0]) ?_ 1 _ rfl;(with_reducible repeat(first|refine aoq ?_ _|refine aoz ?_|refine aok ?_ _));refine anq (cs:=#[.int .i64 0,.int .i64 0]) ?_ 0 _ rfl;(with_reducible repeat(first|refine aoq ?_ _|refine aoz ?_|refine aok ?_ _));exact BK246.out) Tryz.underlying242 rfl (by kernel_rfl)) rfl ?_
 exact⟨by first|rfl|(simp [aek,aeq] <;> rfl)|(simp [*,aek,aeq] <;> rfl),by repeat(first|(with_reducible first|exact HB.out|apply aaq|apply adz|apply aez|refine adq ?_ GE246.out)|exact HB.out)⟩
def bits_LeadingZeros64.f (a0:Int):Option (Int):=(bits_Len64.f a0).bind fun t247=>(some (wrap64 (64-t247)))
set_option maxHeartbeats 8000000 in
theorem bits_LeadingZeros64.calls (a0:Int)(r:Int)(w:World)(h:bits_LeadingZeros64.f a0=some r) :
  Calls Tryz.prog 294 #[.int .u64 a0] w fun e w'=>e=.returned (.int .i64 r)∧Drawn0 w w':=by
 have H:((bits_Len64.f a0).bind fun t247=>(some (wrap64 (64-t247))))=some r:=h
 clear h
 replace H:=Option.bind_eq_some_iff.mp H
 obtain⟨t247,A20,H⟩:=H
 replace H:(some (wrap64 (64-t247)))=some r:=H
 have A2:=Qz.k A20
 clear A20
 obtain rfl:=Option.some.inj H
 go_enter Tryz.func294,Tryz.ntmps294
 go_wp2_with (first|((with_reducible refine aiz (f:=259) rfl ?_);refine asq (some 4) rfl rfl Tryz.func259 (by kernel_rfl) rfl #[.int .u64 a0] rfl (by(try simp only [List.map_toArray,List.map_cons,List.map_nil]);first|done|rfl|(simp only [List.length_drop,List.length_take];rfl)) ?_;(with_reducible refine(bits_Len64.calls a0 t247 _ A2.out).mono ?_);rintro e w' ⟨rfl,⟨nd,rfl⟩⟩;refine⟨_,rfl,?_⟩))
 go_ret
 exact⟨by first|rfl|(simp;done)|(simp [*];done),by repeat(first|exact Drawn0.refl _|apply Drawn0.step)⟩
def gorilla_window_rest.f (a0_0:Int)(a0_1:Int):Option (Int):=some (wrap64 ((wrap64 (64-a0_0))-a0_1))
set_option maxHeartbeats 8000000 in
theorem gorilla_window_rest.calls (a0_0:Int)(a0_1:Int)(r:Int)(w:World)(h:gorilla_window_rest.f a0_0 a0_1=some r) :
  Calls Tryz.prog 245 #[.agg #[.int .i64 a0_0,.int .i64 a0_1]] w fun e w'=>e=.returned (.int .i64 r)∧Below w.heap.size w w':=by
 have hu242:=Tryz.underlying242
 have HB:=Qz.k (Below.refl w.heap.size w)
 have H:(some (wrap64 ((wrap64 (64-a0_0))-a0_1)))=some r:=h
 clear h
 obtain rfl:=Option.some.inj H
 go_enter Tryz.func245,Tryz.ntmps245
 go_wp2_with (first|((with_reducible refine ahk (N:=1) rfl ?_);refine aik ?hg (N:=1) ?hd (cs:=#[.int .i64 a0_0,.int .i64 a0_1]) (t:=242) ?hr ?_;(case hd=>rfl);(case hg=>rfl);(case hr=>first|(go_simp;done)|(go_simp;rfl));intro gb254 hg w2 hbox hb;have n0_:=Qz.k (aaz au_ hb);have n1_:=Qz.k (hbox);have n2_:=Qz.k ((by rw [hg];exact(afq au_):w.heap.size≤gb254));have n3_:=Qz.k ((by rw [hg];exact(afq au_):w.heap.size≤gb254));clear HB;have HB:=n0_;have BK254:=n1_;have GW254:=n2_;have GE254:=n3_;clear n0_ n1_ n2_ n3_;clear hb hbox hg;have hcz3_0:w2.cell? ⟨gb254,0,none⟩=some (.int .i64 a0_0):=(aak BK254.out 0).trans rfl;have hcz3_1:w2.cell? ⟨gb254,1,none⟩=some (.int .i64 a0_1):=(aak BK254.out 1).trans rfl;have hfz3_0:=afk BK254.out 0;have hfz3_1:=afk BK254.out 1))
 go_ret
 exact⟨by first|rfl|(simp [aek,aeq] <;> rfl)|(simp [*,aek,aeq] <;> rfl),by repeat(first|(with_reducible first|exact HB.out|apply aaq|apply adz|apply aez|refine adq ?_ GE254.out)|exact HB.out)⟩
end Go.Proofs.YthggdomocichdaaGreatDoor.P
namespace Go.Proofs.YthggdomocichdaaGreatDoor.P
open Go.RowKit Go.Proofs.YthggdomocichdaaGreatDoor.Kit Go.Proofs.YthggdomocichdaaGreatDoorW.PrintWords Go.Proofs.YthggdomocichdaaGreatDoorW.PrintLast Go.Proofs.YthggdomocichdaaGreatDoorW.PrintMore
attribute [local go_sem] awq awz aCq aCz
def lz (x:Int):Int:=64-(Lib.bitLen x.toNat:Int)
def tz (x:Int):Int:=(Lib.ctz 64 x.toNat:Int)
def bOz (a z x:Int):Bool := !((a == -1) && (z == 0)) && (decide (a≤lz x) && decide (z≤tz x))
def U (x:Int):Prop:=0≤x∧x≤18446744073709551615
theorem bl64 {x:Int}(h:U x):Lib.bitLen x.toNat≤64:=Lib.bitLen_le _ _ (by unfold U at h;omega) (by unfold U at h;omega)
theorem lz_f {x:Int}(h:U x):bits_LeadingZeros64.f x=some (lz x):=by
 unfold bits_LeadingZeros64.f bits_Len64.f
 rw [if_pos (show 0≤x∧x≤18446744073709551615 from h)]
 have:=bl64 h
 show some (wrap64 (64-(Lib.bitLen x.toNat:Int)))=some (lz x)
 rw [agq (by omega) (by omega)]
 rfl
theorem tz_at {x:Int}(h:U x)(w:World)(hT:Tab w):Calls Tryz.prog 155 #[.int .u64 x] w fun e w'=>e=.returned (.int .i64 (tz x))∧w'=w:=by
 obtain⟨n,rfl⟩:=Int.eq_ofNat_of_zero_le h.1
 exact aPk n (by unfold U at h;omega) w hT
theorem eqA42 (d:Nat)(w:World)(x0:Int)(x1:Int)(y0:Int)(y1:Int) :
  (Op.equalIn (d+2) 242 (.agg #[.int .i64 x0,.int .i64 x1]) (.agg #[.int .i64 y0,.int .i64 y1])).run Tryz.prog w=.ok (x0 == y0 && (x1 == y1)) w:=by
 refine eqA_of Tryz.underlying242 (by kernel_rfl) ?_
 refine eqf_cons (by rfl) (by go_simp;rfl) (by go_simp;rfl) (by go_simp) ?_
 exact eqf_last (by rfl) (by go_simp;rfl) (by go_simp;rfl) (by go_simp)
theorem wne (w:World)(a z:Int):(binOp .neq 242 (.agg #[.int .i64 a,.int .i64 z]) (.agg #[.int .i64 (-1),.int .i64 0])).run Tryz.prog w=.ok (.bool (!((a == -1) && (z == 0)))) w:=by
 rw [run_neq_struct,eqA42 9998]
 rfl
set_option maxHeartbeats 1000000 in
theorem gorilla_window_fits.calls (a z x:Int)(r:Bool)(w:World)(hx:U x)(hT:Tab w)(h:bOz a z x=r) :
  Calls Tryz.prog 243 #[.agg #[.int .i64 a,.int .i64 z],.int .u64 x] w fun e w'=>e=.returned (.bool r)∧Below w.heap.size w w':=by
 have HT:=Qz.k hT
 have HX:=Qz.k hx
 have HR:=Qz.k h
 have HB:=Qz.k (Below.refl w.heap.size w)
 have hu42:=Tryz.underlying242
 clear hT hx h
 go_enter Tryz.func243,Tryz.ntmps243
 go_upto_region 1 with(first|((with_reducible refine ahk (N:=2) rfl ?_);refine aik ?hg (N:=2) ?hd (cs:=#[.int .i64 a,.int .i64 z]) (t:=242) ?hr ?_;(case hd=>rfl);(case hg=>rfl);(case hr=>first|(go_simp;done)|(go_simp;rfl));intro gb110 hg w2 hbox hb;have n0_:=Qz.k (aaz HB.out hb);have n1_:=Qz.k hbox;clear HB;have HB:=n0_;have BK:=n1_;clear n0_ n1_;clear hb hbox hg;have hcz0:w2.cell? ⟨gb110,0,none⟩=some (.int .i64 a):=(aak BK.out 0).trans rfl;have hcz1:w2.cell? ⟨gb110,1,none⟩=some (.int .i64 z):=(aak BK.out 1).trans rfl))
 by_cases c1:a = -1∧z=0
 ·have hne:∀ w,(binOp .neq 242 (.agg #[.int .i64 a,.int .i64 z]) (.agg #[.int .i64 (-1),.int .i64 0])).run Tryz.prog w=.ok (.bool false) w:=fun w=>by rw [wne,c1.1,c1.2];rfl
  have HC:=Qz.k c1
  clear c1
  refine axq (n:=18) (S:=fun w'=>w'.cell? ⟨gb110,0,none⟩=some (.int .i64 a)∧w'.cell? ⟨gb110,1,none⟩=some (.int .i64 z)) (ds:=[]) (bl 18 0) (by kernel_rfl) rfl rfl ⟨hcz0,hcz1⟩ (fun hHeld=>?_)
  refine tk_ 0 5 ?_ ?_ (bl 18 1) rfl rfl (by kernel_rfl) hHeld ?_ ?_ ?_
  rotate_left 2
  ·rintro w' ⟨s0,s1⟩;go_simp;with_reducible rfl
  ·simp only [Act.put,putA,putZ,putS,abq,abk];rfl
  refine one_ (i:=1) (N:=some 6) (bl 18 3) rfl rfl (by kernel_rfl) (by decide) (fun K hK=>?_)
  refine aFq Tryz.func242 (by kernel_rfl) rfl #[] (by rfl) rfl rfl (by simp only [List.map_toArray,List.map_cons,List.map_nil];first|done|rfl) ?_
  with_reducible refine(gorilla_none.calls (-1) 0 _ rfl).mono ?_
  rintro e w3 ⟨rfl,hb⟩
  refine⟨_,rfl,?_⟩
  have HB3:=Qz.k (aaz (aez HB.out) hb)
  refine hK.out _ _ ⟨(hb.cell (World.block_lt_of_cell? _ _ hHeld.1)).trans hHeld.1,(hb.cell (World.block_lt_of_cell? _ _ hHeld.2)).trans hHeld.2⟩ (fun hHeld=>?_)
  clear hK K
  refine aHz (a':=?_) ?_ ?_
  rotate_left
  ·show Act.put _ (some 6) _=_
   simp only [Act.put,putA,putZ,putS,abq,abk]
   rfl
  refine pu_ 2 7 ?_ ?_ (bl 18 7) rfl rfl (by kernel_rfl) ?_ ?_ ?_
  rotate_left 2
  ·intro w';go_simp;with_reducible rfl
  ·simp only [Act.put,putA,putZ,putS,abq,abk];rfl
  refine pu_ 3 8 ?_ ?_ (bl 18 15) rfl rfl (by kernel_rfl) ?_ ?_ ?_
  rotate_left 2
  ·intro w';go_simp;with_reducible rfl
  ·simp only [Act.put,putA,putZ,putS,abq,abk];rfl
  refine un_ 4 9 ?_ (bl 18 31) rfl rfl (by kernel_rfl) ?_ ?_
  rotate_left
  ·simp only [Act.put,putA,putZ,putS,abq,abk];rfl
  refine un_ 5 10 ?_ (bl 18 63) rfl rfl (by kernel_rfl) ?_ ?_
  rotate_left
  ·simp only [Act.put,putA,putZ,putS,abq,abk];rfl
  refine un_ 6 11 ?_ (bl 18 127) rfl rfl (by kernel_rfl) ?_ ?_
  rotate_left
  ·simp only [Act.put,putA,putZ,putS,abq,abk];rfl
  refine un_ 7 12 ?_ (bl 18 255) rfl rfl (by kernel_rfl) ?_ ?_
  rotate_left
  ·simp only [Act.put,putA,putZ,putS,abq,abk];rfl
  refine un_ 8 13 ?_ (bl 18 511) rfl rfl (by kernel_rfl) ?_ ?_
  rotate_left
  ·simp only [Act.put,putA,putZ,putS,abq,abk];rfl
  refine pu_ 9 14 ?_ ?_ (bl 18 1023) rfl rfl (by kernel_rfl) ?_ ?_ ?_
  rotate_left 2
  ·intro w';go_simp;with_reducible rfl
  ·simp only [Act.put,putA,putZ,putS,abq,abk];rfl
  refine pu_ 10 15 ?_ ?_ (bl 18 2047) rfl rfl (by kernel_rfl) ?_ ?_ ?_
  rotate_left 2
  ·intro w';go_simp;with_reducible rfl
  ·simp only [Act.put,putA,putZ,putS,abq,abk];rfl
  refine un_ 11 16 ?_ (bl 18 4095) rfl rfl (by kernel_rfl) ?_ ?_
  rotate_left
  ·simp only [Act.put,putA,putZ,putS,abq,abk];rfl
  refine un_ 12 17 ?_ (bl 18 8191) rfl rfl (by kernel_rfl) ?_ ?_
  rotate_left
  ·simp only [Act.put,putA,putZ,putS,abq,abk];rfl
  refine un_ 13 18 ?_ (bl 18 16383) rfl rfl (by kernel_rfl) ?_ ?_
  rotate_left
  ·simp only [Act.put,putA,putZ,putS,abq,abk];rfl
  refine un_ 14 19 ?_ (bl 18 32767) rfl rfl (by kernel_rfl) ?_ ?_
  rotate_left
  ·simp only [Act.put,putA,putZ,putS,abq,abk];rfl
  refine un_ 15 20 ?_ (bl 18 65535) rfl rfl (by kernel_rfl) ?_ ?_
  rotate_left
  ·simp only [Act.put,putA,putZ,putS,abq,abk];rfl
  refine pu_ 16 21 ?_ ?_ (bl 18 131071) rfl rfl (by kernel_rfl) ?_ ?_ ?_
  rotate_left 2
  ·intro w';go_simp;with_reducible rfl
  ·simp only [Act.put,putA,putZ,putS,abq,abk];rfl
  refine pu_ 17 4 ?_ ?_ (bl 18 262143) rfl rfl (by kernel_rfl) ?_ ?_ ?_
  rotate_left 2
  ·intro w';go_simp;with_reducible rfl
  ·simp only [Act.put,putA,putZ,putS,abq,abk];rfl
  refine aPz (by kernel_rfl) ?_
  go_wp2
  go_ret
  exact⟨by rw [←HR.out];simp [bOz,HC.out.1,HC.out.2],HB3.out⟩
 ·have hb0:((a == -1) && (z == 0))=false:=by
   by_cases h1:a = -1
   ·by_cases h2:z=0
    ·exact absurd ⟨h1,h2⟩ c1
    ·simp [h2]
   ·simp [h1]
  have hne:∀ w,(binOp .neq 242 (.agg #[.int .i64 a,.int .i64 z]) (.agg #[.int .i64 (-1),.int .i64 0])).run Tryz.prog w=.ok (.bool true) w:=fun w=>by rw [wne,hb0];rfl
  have HC:=Qz.k hb0
  clear c1 hb0
  by_cases c2:a≤lz x
  ·have c2b:decide (a≤lz x)=true:=decide_eq_true c2
   clear c2
   obtain⟨c,hc⟩:∃ c,decide (z≤tz x)=c:=⟨_,rfl⟩
   refine axq (n:=18) (S:=fun w'=>w'.cell? ⟨gb110,0,none⟩=some (.int .i64 a)∧w'.cell? ⟨gb110,1,none⟩=some (.int .i64 z)) (ds:=[]) (bl 18 0) (by kernel_rfl) rfl rfl ⟨hcz0,hcz1⟩ (fun hHeld=>?_)
   refine tk_ 0 5 ?_ ?_ (bl 18 1) rfl rfl (by kernel_rfl) hHeld ?_ ?_ ?_
   rotate_left 2
   ·rintro w' ⟨s0,s1⟩;go_simp;with_reducible rfl
   ·simp only [Act.put,putA,putZ,putS,abq,abk];rfl
   refine one_ (i:=1) (N:=some 6) (bl 18 3) rfl rfl (by kernel_rfl) (by decide) (fun K hK=>?_)
   refine aFq Tryz.func242 (by kernel_rfl) rfl #[] (by rfl) rfl rfl (by simp only [List.map_toArray,List.map_cons,List.map_nil];first|done|rfl) ?_
   with_reducible refine(gorilla_none.calls (-1) 0 _ rfl).mono ?_
   rintro e w3 ⟨rfl,hb⟩
   refine⟨_,rfl,?_⟩
   have HB3:=Qz.k (aaz (aez HB.out) hb)
   refine hK.out _ _ ⟨(hb.cell (World.block_lt_of_cell? _ _ hHeld.1)).trans hHeld.1,(hb.cell (World.block_lt_of_cell? _ _ hHeld.2)).trans hHeld.2⟩ (fun hHeld=>?_)
   clear hK K
   refine aHz (a':=?_) ?_ ?_
   rotate_left
   ·show Act.put _ (some 6) _=_
    simp only [Act.put,putA,putZ,putS,abq,abk]
    rfl
   refine pu_ 2 7 ?_ ?_ (bl 18 7) rfl rfl (by kernel_rfl) ?_ ?_ ?_
   rotate_left 2
   ·intro w';go_simp;with_reducible rfl
   ·simp only [Act.put,putA,putZ,putS,abq,abk];rfl
   refine pu_ 3 8 ?_ ?_ (bl 18 15) rfl rfl (by kernel_rfl) ?_ ?_ ?_
   rotate_left 2
   ·intro w';go_simp;with_reducible rfl
   ·simp only [Act.put,putA,putZ,putS,abq,abk];rfl
   refine pu_ 4 9 ?_ ?_ (bl 18 31) rfl rfl (by kernel_rfl) ?_ ?_ ?_
   rotate_left 2
   ·intro w';go_simp;with_reducible rfl
   ·simp only [Act.put,putA,putZ,putS,abq,abk];rfl
   refine pu_ 6 11 ?_ ?_ (bl 18 95) rfl rfl (by kernel_rfl) ?_ ?_ ?_
   rotate_left 2
   ·intro w';go_simp;with_reducible rfl
   ·simp only [Act.put,putA,putZ,putS,abq,abk];rfl
   refine tk_ 7 12 ?_ ?_ (bl 18 223) rfl rfl (by kernel_rfl) hHeld ?_ ?_ ?_
   rotate_left 2
   ·rintro w' ⟨s0,s1⟩;go_simp;with_reducible rfl
   ·simp only [Act.put,putA,putZ,putS,abq,abk];rfl
   refine one_ (i:=5) (N:=some 10) (bl 18 255) rfl rfl (by kernel_rfl) (by decide) (fun K hK=>?_)
   refine aFq Tryz.func294 (by kernel_rfl) rfl #[.int .u64 x] (by rfl) rfl rfl (by simp only [List.map_toArray,List.map_cons,List.map_nil];first|done|rfl) ?_
   with_reducible refine(bits_LeadingZeros64.calls x _ _ (lz_f HX.out)).mono ?_
   rintro e w4 ⟨rfl,⟨n4,rfl⟩⟩
   refine⟨_,rfl,?_⟩
   have HB4:=Qz.k (adz HB3.out n4)
   refine hK.out _ _ ⟨hHeld.1,hHeld.2⟩ (fun hHeld=>?_)
   clear hK K
   refine aHz (a':=?_) ?_ ?_
   rotate_left
   ·show Act.put _ (some 10) _=_
    simp only [Act.put,putA,putZ,putS,abq,abk]
    rfl
   refine pu_ 8 13 ?_ ?_ (bl 18 511) rfl rfl (by kernel_rfl) ?_ ?_ ?_
   rotate_left 2
   ·intro w';go_simp;with_reducible rfl
   ·simp only [Act.put,putA,putZ,putS,abq,abk];rfl
   refine pu_ 9 14 ?_ ?_ (bl 18 1023) rfl rfl (by kernel_rfl) ?_ ?_ ?_
   rotate_left 2
   ·intro w';go_simp;with_reducible rfl
   ·simp only [Act.put,putA,putZ,putS,abq,abk];rfl
   refine pu_ 10 15 ?_ ?_ (bl 18 2047) rfl rfl (by kernel_rfl) ?_ ?_ ?_
   rotate_left 2
   ·intro w';go_simp;with_reducible rfl
   ·simp only [Act.put,putA,putZ,putS,abq,abk];rfl
   refine pu_ 11 16 ?_ ?_ (bl 18 4095) rfl rfl (by kernel_rfl) ?_ ?_ ?_
   rotate_left 2
   ·intro w';go_simp;with_reducible rfl
   ·simp only [Act.put,putA,putZ,putS,abq,abk];rfl
   refine pu_ 13 18 ?_ ?_ (bl 18 12287) rfl rfl (by kernel_rfl) ?_ ?_ ?_
   rotate_left 2
   ·intro w';go_simp;with_reducible rfl
   ·simp only [Act.put,putA,putZ,putS,abq,abk];rfl
   refine tk_ 14 19 ?_ ?_ (bl 18 28671) rfl rfl (by kernel_rfl) hHeld ?_ ?_ ?_
   rotate_left 2
   ·rintro w' ⟨s0,s1⟩;go_simp;with_reducible rfl
   ·simp only [Act.put,putA,putZ,putS,abq,abk];rfl
   refine one_ (i:=12) (N:=some 17) (bl 18 32767) rfl rfl (by kernel_rfl) (by decide) (fun K hK=>?_)
   refine aFq Tryz.func155 (by kernel_rfl) rfl #[.int .u64 x] (by rfl) rfl rfl (by simp only [List.map_toArray,List.map_cons,List.map_nil];first|done|rfl) ?_
   with_reducible refine(tz_at HX.out _ (HT.out.below HB4.out)).mono ?_
   rintro e w5 ⟨rfl,hw5⟩
   refine⟨_,rfl,?_⟩
   subst hw5
   refine hK.out _ _ ⟨hHeld.1,hHeld.2⟩ (fun hHeld=>?_)
   clear hK K
   refine aHz (a':=?_) ?_ ?_
   rotate_left
   ·show Act.put _ (some 17) _=_
    simp only [Act.put,putA,putZ,putS,abq,abk]
    rfl
   refine pu_ 15 20 ?_ ?_ (bl 18 65535) rfl rfl (by kernel_rfl) ?_ ?_ ?_
   rotate_left 2
   ·intro w';go_simp;with_reducible rfl
   ·simp only [Act.put,putA,putZ,putS,abq,abk];rfl
   refine pu_ 16 21 ?_ ?_ (bl 18 131071) rfl rfl (by kernel_rfl) ?_ ?_ ?_
   rotate_left 2
   ·intro w';go_simp;with_reducible rfl
   ·simp only [Act.put,putA,putZ,putS,abq,abk];rfl
   refine pu_ 17 4 ?_ ?_ (bl 18 262143) rfl rfl (by kernel_rfl) ?_ ?_ ?_
   rotate_left 2
   ·intro w';go_simp;with_reducible rfl
   ·simp only [Act.put,putA,putZ,putS,abq,abk];rfl
   refine aPz (by kernel_rfl) ?_
   go_wp2
   go_ret
   exact⟨by rw [←HR.out];simp [bOz,HC.out,c2b,hc],HB4.out⟩
  ·have c2b:decide (a≤lz x)=false:=decide_eq_false c2
   clear c2
   refine axq (n:=18) (S:=fun w'=>w'.cell? ⟨gb110,0,none⟩=some (.int .i64 a)∧w'.cell? ⟨gb110,1,none⟩=some (.int .i64 z)) (ds:=[]) (bl 18 0) (by kernel_rfl) rfl rfl ⟨hcz0,hcz1⟩ (fun hHeld=>?_)
   refine tk_ 0 5 ?_ ?_ (bl 18 1) rfl rfl (by kernel_rfl) hHeld ?_ ?_ ?_
   rotate_left 2
   ·rintro w' ⟨s0,s1⟩;go_simp;with_reducible rfl
   ·simp only [Act.put,putA,putZ,putS,abq,abk];rfl
   refine one_ (i:=1) (N:=some 6) (bl 18 3) rfl rfl (by kernel_rfl) (by decide) (fun K hK=>?_)
   refine aFq Tryz.func242 (by kernel_rfl) rfl #[] (by rfl) rfl rfl (by simp only [List.map_toArray,List.map_cons,List.map_nil];first|done|rfl) ?_
   with_reducible refine(gorilla_none.calls (-1) 0 _ rfl).mono ?_
   rintro e w3 ⟨rfl,hb⟩
   refine⟨_,rfl,?_⟩
   have HB3:=Qz.k (aaz (aez HB.out) hb)
   refine hK.out _ _ ⟨(hb.cell (World.block_lt_of_cell? _ _ hHeld.1)).trans hHeld.1,(hb.cell (World.block_lt_of_cell? _ _ hHeld.2)).trans hHeld.2⟩ (fun hHeld=>?_)
   clear hK K
   refine aHz (a':=?_) ?_ ?_
   rotate_left
   ·show Act.put _ (some 6) _=_
    simp only [Act.put,putA,putZ,putS,abq,abk]
    rfl
   refine pu_ 2 7 ?_ ?_ (bl 18 7) rfl rfl (by kernel_rfl) ?_ ?_ ?_
   rotate_left 2
   ·intro w';go_simp;with_reducible rfl
   ·simp only [Act.put,putA,putZ,putS,abq,abk];rfl
   refine pu_ 3 8 ?_ ?_ (bl 18 15) rfl rfl (by kernel_rfl) ?_ ?_ ?_
   rotate_left 2
   ·intro w';go_simp;with_reducible rfl
   ·simp only [Act.put,putA,putZ,putS,abq,abk];rfl
   refine pu_ 4 9 ?_ ?_ (bl 18 31) rfl rfl (by kernel_rfl) ?_ ?_ ?_
   rotate_left 2
   ·intro w';go_simp;with_reducible rfl
   ·simp only [Act.put,putA,putZ,putS,abq,abk];rfl
   refine pu_ 6 11 ?_ ?_ (bl 18 95) rfl rfl (by kernel_rfl) ?_ ?_ ?_
   rotate_left 2
   ·intro w';go_simp;with_reducible rfl
   ·simp only [Act.put,putA,putZ,putS,abq,abk];rfl
   refine tk_ 7 12 ?_ ?_ (bl 18 223) rfl rfl (by kernel_rfl) hHeld ?_ ?_ ?_
   rotate_left 2
   ·rintro w' ⟨s0,s1⟩;go_simp;with_reducible rfl
   ·simp only [Act.put,putA,putZ,putS,abq,abk];rfl
   refine one_ (i:=5) (N:=some 10) (bl 18 255) rfl rfl (by kernel_rfl) (by decide) (fun K hK=>?_)
   refine aFq Tryz.func294 (by kernel_rfl) rfl #[.int .u64 x] (by rfl) rfl rfl (by simp only [List.map_toArray,List.map_cons,List.map_nil];first|done|rfl) ?_
   with_reducible refine(bits_LeadingZeros64.calls x _ _ (lz_f HX.out)).mono ?_
   rintro e w4 ⟨rfl,⟨n4,rfl⟩⟩
   refine⟨_,rfl,?_⟩
   have HB4:=Qz.k (adz HB3.out n4)
   refine hK.out _ _ ⟨hHeld.1,hHeld.2⟩ (fun hHeld=>?_)
   clear hK K
   refine aHz (a':=?_) ?_ ?_
   rotate_left
   ·show Act.put _ (some 10) _=_
    simp only [Act.put,putA,putZ,putS,abq,abk]
    rfl
   refine pu_ 8 13 ?_ ?_ (bl 18 511) rfl rfl (by kernel_rfl) ?_ ?_ ?_
   rotate_left 2
   ·intro w';go_simp;with_reducible rfl
   ·simp only [Act.put,putA,putZ,putS,abq,abk];rfl
   refine pu_ 9 14 ?_ ?_ (bl 18 1023) rfl rfl (by kernel_rfl) ?_ ?_ ?_
   rotate_left 2
   ·intro w';go_simp;with_reducible rfl
   ·simp only [Act.put,putA,putZ,putS,abq,abk];rfl
   refine pu_ 10 15 ?_ ?_ (bl 18 2047) rfl rfl (by kernel_rfl) ?_ ?_ ?_
   rotate_left 2
   ·intro w';go_simp;with_reducible rfl
   ·simp only [Act.put,putA,putZ,putS,abq,abk];rfl
   refine un_ 11 16 ?_ (bl 18 4095) rfl rfl (by kernel_rfl) ?_ ?_
   rotate_left
   ·simp only [Act.put,putA,putZ,putS,abq,abk];rfl
   refine un_ 12 17 ?_ (bl 18 8191) rfl rfl (by kernel_rfl) ?_ ?_
   rotate_left
   ·simp only [Act.put,putA,putZ,putS,abq,abk];rfl
   refine un_ 13 18 ?_ (bl 18 16383) rfl rfl (by kernel_rfl) ?_ ?_
   rotate_left
   ·simp only [Act.put,putA,putZ,putS,abq,abk];rfl
   refine un_ 14 19 ?_ (bl 18 32767) rfl rfl (by kernel_rfl) ?_ ?_
   rotate_left
   ·simp only [Act.put,putA,putZ,putS,abq,abk];rfl
   refine un_ 15 20 ?_ (bl 18 65535) rfl rfl (by kernel_rfl) ?_ ?_
   rotate_left
   ·simp only [Act.put,putA,putZ,putS,abq,abk];rfl
   refine pu_ 16 21 ?_ ?_ (bl 18 131071) rfl rfl (by kernel_rfl) ?_ ?_ ?_
   rotate_left 2
   ·intro w';go_simp;with_reducible rfl
   ·simp only [Act.put,putA,putZ,putS,abq,abk];rfl
   refine pu_ 17 4 ?_ ?_ (bl 18 262143) rfl rfl (by kernel_rfl) ?_ ?_ ?_
   rotate_left 2
   ·intro w';go_simp;with_reducible rfl
   ·simp only [Act.put,putA,putZ,putS,abq,abk];rfl
   refine aPz (by kernel_rfl) ?_
   go_wp2
   go_ret
   exact⟨by rw [←HR.out];simp [bOz,HC.out,c2b],HB4.out⟩
def ld (x:Int):Int:=mn (lz x) 31
theorem tz_le {x:Int}(h:U x):0≤tz x∧tz x≤64:=by
 unfold tz
 unfold Lib.ctz
 split
 ·omega
 ·next h0=>
  obtain⟨m,hm,hk⟩:=Lib.ctzFrom_spec 64 x.toNat (by omega) (by unfold U at h;omega)
  omega
theorem lz_le {x:Int}(h:U x):0≤lz x∧lz x≤64:=by
 have:=bl64 h
 unfold lz
 omega
set_option maxHeartbeats 1000000 in
theorem gorilla_of.calls (x:Int)(w:World)(hx:U x)(hT:Tab w) :
  Calls Tryz.prog 244 #[.int .u64 x] w fun e w'=>e=.returned (.agg #[.int .i64 (ld x),.int .i64 (tz x)])∧Below w.heap.size w w':=by
 have HT:=Qz.k hT
 have HX:=Qz.k hx
 have HB:=Qz.k (Below.refl w.heap.size w)
 have hu42:=Tryz.underlying242
 have hm:(if 31<lz x then 31 else lz x)=ld x:=rfl
 clear hT hx
 go_enter Tryz.func244,Tryz.ntmps244
 go_wp2_with (first
  |((with_reducible refine ahk (N:=2) rfl ?_);refine aik ?hg (N:=2) ?hd (cs:=#[.int .i64 0,.int .i64 0]) (t:=242) ?hr ?_;(case hd=>rfl);(case hg=>rfl);(case hr=>first|(go_simp;done)|(go_simp;rfl));intro gb110 hg w2 hbox hb;have n0_:=Qz.k (aaz HB.out hb);have n1_:=Qz.k hbox;have n2_:=Qz.k ((by rw [hg];exact(afq HB.out)):w.heap.size≤gb110);clear HB;have HB:=n0_;have BK:=n1_;have GE:=n2_;clear n0_ n1_ n2_;clear hb hbox hg;have hcz0:w2.cell? ⟨gb110,0,none⟩=some (.int .i64 0):=(aak BK.out 0).trans rfl;have hcz1:w2.cell? ⟨gb110,1,none⟩=some (.int .i64 0):=(aak BK.out 1).trans rfl;have hfz0:=afk BK.out 0;have hfz1:=afk BK.out 1)
  |(go_at_call 294;refine(bits_LeadingZeros64.calls x _ _ (lz_f HX.out)).mono ?_;rintro e w4 ⟨rfl,⟨n4,rfl⟩⟩)
  |(go_at_call 155;refine(tz_at HX.out _ (HT.out.below (adz HB.out _))).mono ?_;rintro e w5 ⟨rfl,hw5⟩;subst hw5))
 refine bodyPost_ret (results_cell_row rfl _ _ gb110 242 #[.int .i64 (ld x),.int .i64 (tz x)] (0,0) _ rfl (by(with_reducible repeat(first|refine aoq ?_ _|refine aoz ?_|refine aok ?_ _));refine anq (cs:=#[.int .i64 (ld x),.int .i64 0]) ?_ 1 _ rfl;(with_reducible repeat(first|refine aoq ?_ _|refine aoz ?_|refine aok ?_ _));refine anq (cs:=#[.int .i64 0,.int .i64 0]) ?_ 0 _ rfl;(with_reducible repeat(first|refine aoq ?_ _|refine aoz ?_|refine aok ?_ _));exact BK.out) Tryz.underlying242 rfl (by kernel_rfl)) rfl ?_
 exact⟨rfl,by repeat(first|(with_reducible first|exact HB.out|apply aaq|apply adz|apply aez|refine adq ?_ GE.out)|exact HB.out)⟩
end Go.Proofs.YthggdomocichdaaGreatDoor.P
namespace Go.Proofs.YthggdomocichdaaGreatDoor.P
open Go.RowKit Go.Proofs.YthggdomocichdaaGreatDoor.Kit Go.Proofs.YthggdomocichdaaGreatDoorW.PrintWords Go.Proofs.YthggdomocichdaaGreatDoorW.PrintLast Go.Proofs.YthggdomocichdaaGreatDoorW.PrintMore
def xw (a b:Int):Int:=Go.bits .xor .u64 a b
theorem xw_nat {a b:Int}(ha:U a)(hb:U b):xw a b=((a.toNat ^^^ b.toNat:Nat):Int):=by
 unfold U at ha hb
 obtain⟨m,rfl⟩:=Int.eq_ofNat_of_zero_le ha.1
 obtain⟨n,rfl⟩:=Int.eq_ofNat_of_zero_le hb.1
 exact k64_xor_nat m n (by omega) (by omega)
theorem xw_U {a b:Int}(ha:U a)(hb:U b):U (xw a b):=by
 rw [xw_nat ha hb]
 unfold U at *
 have:=Nat.xor_lt_two_pow (n:=64) (show a.toNat<2 ^ 64 by omega) (show b.toNat<2 ^ 64 by omega)
 omega
theorem bl_lt (n:Nat):∀ w,n<18446744073709551616→Lib.bitLen n≤w→n<2 ^ w:=by
 induction n using Nat.strongRecOn with
 | _ n ih=>
  intro w hn h
  rcases Nat.eq_zero_or_pos n with rfl|h0
  ·exact Nat.two_pow_pos w
  ·rw [Lib.bitLen_half n (by omega) hn]at h
   obtain⟨m,rfl⟩:∃ m,w=m+1:=⟨w-1,by omega⟩
   have:=ih (n/2) (by omega) m (by omega) (by omega)
   rw [Nat.pow_succ]
   omega
theorem lz_tz {x:Int}(h:U x)(h0:x≠0):lz x+tz x≤63:=by
 unfold U at h
 obtain⟨n,rfl⟩:=Int.eq_ofNat_of_zero_le h.1
 unfold lz tz Lib.ctz
 rw [Int.toNat_natCast,if_neg (by omega)]
 obtain⟨m,hm,hk⟩:=Lib.ctzFrom_spec 64 n (by omega) (by omega)
 have h1:2 ^ Lib.ctzFrom 64 n≤n:=by
  have:2 ^ Lib.ctzFrom 64 n*1≤2 ^ Lib.ctzFrom 64 n*(2*m+1):=Nat.mul_le_mul_left _ (by omega)
  omega
 have h2:n<2 ^ Lib.bitLen n:=bl_lt n _ (by omega) (Nat.le_refl _)
 have h3:Lib.ctzFrom 64 n<Lib.bitLen n:=(Nat.pow_lt_pow_iff_right (by decide:1<2)).1 (by omega)
 omega
def stepW (p:Int×Int)(x:Int):Int×Int:=if x=0 then p else if bOz p.1 p.2 x then p else(ld x,tz x)
def stepB (p:Int×Int)(x:Int):List Int:=
 if x=0 then bitsOf 1 0 else if bOz p.1 p.2 x then bitsOf 2 2++bitsOf (64-p.1-p.2).toNat (x/2 ^ p.2.toNat)
 else bitsOf 2 3++(bitsOf 5 (ld x)++(bitsOf 6 (63-ld x-tz x)++bitsOf (64-ld x-tz x).toNat (x/2 ^ (tz x).toNat)))
def dx (l:List Int)(i:Nat):Int:=xw (rd l (i:Int)) (rd l ((i:Int)-1))
def gW (l:List Int):Nat→Int×Int
 | 0=>(-1,0)
 |i+1=>if i=0 then(-1,0)else stepW (gW l i) (dx l i)
def gItem (l:List Int)(i:Nat):List Int:=if i=0 then bitsOf 64 (rd l 0)else stepB (gW l i) (dx l i)
def gB (l:List Int)(n:Nat):List Int:=(List.range n).flatMap (gItem l)
def gEnc (l:List Int):List Int×Int:=if 65536<l.length then([],4)else(pack (gB l l.length),0)
theorem gB_succ (l:List Int)(i:Nat):gB l (i+1)=gB l i++gItem l i:=by simp [gB,List.range_succ]
def okW (p:Int×Int):Prop:=p=(-1,0)∨0≤p.1∧p.1≤31∧0≤p.2∧p.1+p.2≤63
theorem ld_le {x:Int}(h:U x):0≤ld x∧ld x≤31∧ld x≤lz x:=by
 have:=lz_le h
 unfold ld mn
 split <;> omega
theorem fitsW_true {a z x:Int}(h:bOz a z x=true):¬ (a = -1∧z=0)∧a≤lz x∧z≤tz x:=by
 unfold bOz at h
 simp only [Bool.and_eq_true,Bool.not_eq_true',decide_eq_true_eq]at h
 refine⟨fun⟨e1,e2⟩=>?_,h.2⟩
 rw [e1,e2]at h
 exact absurd h.1 (by decide)
theorem stepW_ok {p:Int×Int}{x:Int}(hp:okW p)(h:U x):okW (stepW p x):=by
 unfold stepW
 split
 ·exact hp
 ·split
  ·exact hp
  ·next h0 _=>
   have:=ld_le h
   have:=lz_tz h h0
   have:=tz_le h
   exact .inr ⟨by omega,by omega,by omega,by omega⟩
theorem dx_U {l:List Int}(hu:∀ x∈l,U x){i:Nat}(h0:0<i)(hi:i<l.length):U (dx l i):=
 xw_U (hu _ (aZz l (i:Int) (by omega) (by omega))) (hu _ (aZz l ((i:Int)-1) (by omega) (by omega)))
theorem gW_ok {l:List Int}(hu:∀ x∈l,U x):∀ i,i≤l.length→okW (gW l i)
 | 0,_=>.inl rfl
 |i+1,hi=>by
  unfold gW
  split
  ·exact .inl rfl
  ·exact stepW_ok (gW_ok hu i (by omega)) (dx_U hu (by omega) (by omega))
theorem stepB_len {p:Int×Int}{x:Int}(hp:okW p)(h:U x):1≤(stepB p x).length∧(stepB p x).length≤77:=by
 have:=ld_le h
 have:=tz_le h
 unfold stepB
 split
 ·rw [auk]
  omega
 ·split
  ·rw [List.length_append,auk,auk]
   rcases hp with rfl|hp
   ·simp only [Prod.fst,Prod.snd]
    omega
   ·omega
  ·simp only [List.length_append,auk]
   omega
theorem gItem_len {l:List Int}(hu:∀ x∈l,U x){i:Nat}(hi:i<l.length):1≤(gItem l i).length∧(gItem l i).length≤77:=by
 unfold gItem
 split
 ·rw [auk]
  omega
 ·exact stepB_len (gW_ok hu i (by omega)) (dx_U hu (by omega) hi)
theorem gB_len {l:List Int}(hu:∀ x∈l,U x):∀ i,i≤l.length→i≤(gB l i).length∧(gB l i).length≤i*77
 | 0,_=>by simp [gB]
 |i+1,hi=>by
  rw [gB_succ,List.length_append]
  have:=gB_len hu i (by omega)
  have:=gItem_len hu (show i<l.length by omega)
  omega
theorem shr_fit {x a z:Int}(h:U x)(ha:0≤a)(hz:0≤z)(hs:a+z≤64)(hl:a≤lz x):U (x/2 ^ z.toNat)∧(Lib.bitLen (x/2 ^ z.toNat).toNat:Int)≤64-a-z:=by
 unfold U at h
 obtain⟨n,rfl⟩:=Int.eq_ofNat_of_zero_le h.1
 obtain⟨a,rfl⟩:=Int.eq_ofNat_of_zero_le ha
 obtain⟨z,rfl⟩:=Int.eq_ofNat_of_zero_le hz
 rw [Int.toNat_natCast]
 have e:(n:Int)/2 ^ z=((n/2 ^ z:Nat):Int):=by norm_cast
 rw [e,Int.toNat_natCast]
 have hn:n<2 ^ (64-a):=bl_lt n (64-a) (by omega) (by unfold lz at hl;rw [Int.toNat_natCast]at hl;omega)
 have hq:n/2 ^ z<2 ^ (64-a-z):=by
  rw [Nat.div_lt_iff_lt_mul (Nat.two_pow_pos z),←Nat.pow_add,show 64-a-z+z=64-a by omega]
  exact hn
 have hle:n/2 ^ z≤n:=Nat.div_le_self _ _
 generalize n/2 ^ z=q at *
 refine⟨⟨by omega,by omega⟩,?_⟩
 have:=Lib.bitLen_le q (64-a-z) (by omega) hq
 omega
theorem put_ok {s:List Int}{v:Int}{w:Nat}(hs:s.length+64<16777216)(hv:U v)(hw:w≤64)(hl:Lib.bitLen v.toNat≤w):bits_Writer_Put.f s v (w:Int)=some (0,s++bitsOf w v):=by
 unfold U at hv
 unfold bits_Writer_Put.f
 rw [if_pos ⟨hs,by omega,by omega⟩]
 unfold wPut
 rw [if_neg (by omega),Int.toNat_natCast]
theorem bcq {s:List Int}{v w:Nat}(hs:s.length+64<16777216)(hw:w≤63)(hl:v<2 ^ w):bits_Writer_Put.f s (v:Int) (w:Int)=some (0,s++bitsOf w (v:Int)):=by
 have h1:v<2 ^ 63:=Nat.lt_of_lt_of_le hl (Nat.pow_le_pow_right (by decide) hw)
 refine put_ok hs ⟨by omega,by omega⟩ (by omega) ?_
 rw [Int.toNat_natCast]
 exact Lib.bitLen_le _ _ (by omega) hl
theorem ajq.set {w0 W:World}{g gw t:Nat}{f0:List Int}{cs:Array Value}(h:ajq w0 W g f0)(hw:W.heap[gw]? = some (.cells cs t (0,0)))(ht:t≠234∧t≠5)(i:Nat)(u:Value):ajq w0 (W.setCell ⟨gw,i,none⟩ u) g f0:=by
 obtain⟨b,n,⟨v,hg,hb,hr⟩,hx⟩:=h
 have hne:g≠gw:=by
  rintro rfl
  rw [hg]at hw
  injection hw with hw
  injection hw with _ h5
  exact ht.1 h5.symm
 have hr':=Kd.aLk hr hw (fun q hq=>by
  rcases List.mem_cons.1 hq with rfl|hq
  ·exact ht.2.symm
  ·exact absurd hq (by rw [show(Kd.int .u8).E=[]from rfl];exact List.not_mem_nil))
 exact⟨b,n,⟨v,(Below.heap_setCell W ⟨gw,i,none⟩ u g hne).trans hg,hb,Kd.R_mono (Kd.aQq hr' (fun k hk=>hk.2) u) (fun _ hk=>⟨hk.1.1,trivial⟩)⟩,hx⟩
end Go.Proofs.YthggdomocichdaaGreatDoor.P
namespace Go.Proofs.YthggdomocichdaaGreatDoor.P
open Go.RowKit Go.Proofs.YthggdomocichdaaGreatDoor.Kit Go.Proofs.YthggdomocichdaaGreatDoorW.PrintWords Go.Proofs.YthggdomocichdaaGreatDoorW.PrintLast Go.Proofs.YthggdomocichdaaGreatDoorW.PrintMore
attribute [local go_sem] awq awz aCq aCz
def gorilla_Encode.f (l:List Int):Option (List Int×Int):=if(∀ x∈l,0≤x∧x≤18446744073709551615)∧l.length<140737488355328 then some (gEnc l)else none
theorem aTq {w0 w w':World}{g gw t:Nat}{f0:List Int}{cs:Array Value}(hI:ajq w0 w g f0)(hk:KeepW w w' g)(h:w.heap[gw]? = some (.cells cs t (0,0)))(ht:t≠234∧t≠5):w'.heap[gw]? = some (.cells cs t (0,0)):=by
 obtain⟨b,n,⟨v,hg,hb,hr⟩,hx⟩:=hI
 have hne:gw≠g:=by
  rintro rfl
  rw [hg]at h
  injection h with h
  injection h with _ h5
  exact ht.1 h5.symm
 refine(hk.2 gw (aQk h) hne fun cells hc=>?_).trans h
 rw [h]at hc
 injection hc with hc
 injection hc with _ h5
 exact ht.2 h5
theorem gB_room {l:List Int}(hu:∀ x∈l,U x)(hl:l.length≤65536){i:Nat}(hi:i≤l.length):(gB l i).length≤5046272:=by
 have:=gB_len hu i hi
 omega
set_option maxHeartbeats 4000000 in
theorem gorilla_Encode.calls (A0:Option Addr)(c0:Nat)(l0:List Int)(r1:List Int)(r2:Int)(w:World)(hr0:Kd.C (Kd.int .u64) w A0 l0.length l0)(hc0:l0.length≤c0)(h:gorilla_Encode.f l0=some (r1,r2))(hT:Tab w:=by first|assumption|exact Qz.out ‹Qz (Tab _)›|exact Tab.below (Qz.out ‹Qz (Tab _)›) (by repeat(first|(with_reducible first|exact Qz.out ‹Qz (Below _ _ _)›|apply aaq|apply adz|apply aez)))) :
  Calls Tryz.prog 196 #[.slice A0 l0.length c0] w fun e w'=>∃ v0_:Value,e=.returned (.tuple #[v0_,.int .i64 r2])∧Kd.R (Kd.int .u8) 5 w' w.heap.size (fun _=>True) v0_ r1∧Below w.heap.size w w':=by
 unfold gorilla_Encode.f at h
 split at h
 case isFalse=>cases h
 case isTrue hc=>
  injection h with h
  unfold gEnc at h
  obtain⟨hu,hl⟩:=hc
  by_cases h65:65536<l0.length
  ·rw [if_pos h65]at h
   injection h with h1 h2
   subst h1 h2
   have c1:decide (65536<(l0.length:Int))=true:=decide_eq_true (by omega)
   have c2:decide (65536<l0.length)=true:=decide_eq_true h65
   clear hr0 hc0 hu hl h65 hT
   go_enter Tryz.func196,Tryz.ntmps196
   go_wp2
   go_ret2
   exact⟨_,rfl,Kd.ayz _ _ _ _ _,Below.refl _ _⟩
  ·rw [if_neg h65]at h
   injection h with h1 h2
   subst h2
   have c1:decide (65536<(l0.length:Int))=false:=decide_eq_false (by omega)
   have c2:decide (65536<l0.length)=false:=decide_eq_false h65
   have H:=Qz.k h1
   have HR:=Qz.k hr0
   have HU:=Qz.k (show ∀ x∈l0,U x from hu)
   have HN:=Qz.k (show l0.length≤65536∧l0.length≤c0 from⟨by omega,hc0⟩)
   have HT:=Qz.k hT
   have hu42:=Tryz.underlying242
   clear hr0 hc0 hu hl h65 h1 hT
   go_enter Tryz.func196,Tryz.ntmps196
   go_wp2_with (first
    |(go_at_call 242;have HBX:=Qz.k (ajq.box (w0:=w) (W:=w.alloc (.cells #[.slice none 0 0,.int .i64 0] 234)) (g:=w.heap.size) (MapKept.heap_alloc w _).1 (Nat.le_refl _));refine(gorilla_none.calls (-1) 0 _ rfl).mono ?_;rintro e w3 ⟨rfl,hb⟩;have HI:=Qz.k (HBX.out.below hb);have HB:=Qz.k (aaz (aaq (Below.refl w.heap.size w) _) hb);clear HBX hb)
    |((with_reducible refine ahk (N:=5) rfl ?_);refine aik ?hg (N:=5) ?hd (cs:=#[.int .i64 0,.int .i64 0]) (t:=242) ?hr ?_;(case hd=>rfl);(case hg=>rfl);(case hr=>first|(go_simp;done)|(go_simp;rfl));intro gw hg w4 hbox hb;have HI4:=Qz.k (HI.out.below hb);have HB4:=Qz.k (aaz HB.out hb);have BK:=Qz.k hbox;have GE:=Qz.k ((by rw [hg];exact(afq HB.out)):w.heap.size≤gw);clear HI HB hbox hb hg;have hcz0:w4.cell? ⟨gw,0,none⟩=some (.int .i64 0):=(aak BK.out 0).trans rfl;have hcz1:w4.cell? ⟨gw,1,none⟩=some (.int .i64 0):=(aak BK.out 1).trans rfl;have hfz0:=afk BK.out 0;have hfz1:=afk BK.out 1))
   have HW0:=Qz.k (show((w4.setCell ⟨gw,0,none⟩ (.int .i64 (-1))).setCell ⟨gw,1,none⟩ (.int .i64 0)).heap[gw]? = some (.cells #[.int .i64 (-1),.int .i64 0] 242 (0,0))from by
    refine anq (cs:=#[.int .i64 (-1),.int .i64 0]) ?_ 1 _ rfl
    refine anq (cs:=#[.int .i64 0,.int .i64 0]) ?_ 0 _ rfl
    exact BK.out)
   have HI0:=Qz.k (ajq.set (ajq.set HI4.out BK.out (by decide) 0 (.int .i64 (-1))) (anq (cs':=#[.int .i64 (-1),.int .i64 0]) BK.out 0 _ rfl) (by decide) 1 (.int .i64 0))
   have HB0:=Qz.k (show Below w.heap.size w ((w4.setCell ⟨gw,0,none⟩ (.int .i64 (-1))).setCell ⟨gw,1,none⟩ (.int .i64 0))from adq (adq HB4.out GE.out) GE.out)
   clear HB4 HI4 c1 c2 hcz0 hcz1 hfz0 hfz1
   go_loopg [17] l0.length (fun kq v17 W'=>∃ i:Nat,v17=.int .i64 (i:Int)∧kq=l0.length-i∧i≤l0.length∧Qz (ajq w W' w.heap.size (gB l0 i))∧Qz (Below w.heap.size w W')∧Qz (W'.heap[gw]? = some (.cells #[.int .i64 (gW l0 i).1,.int .i64 (gW l0 i).2] 242 (0,0))))
   case atStart=>exact⟨0,rfl,rfl,Nat.zero_le _,HI0,HB0,HW0⟩
   case round=>
    clear HI0 HB0 HW0 BK
    obtain⟨i,rfl,rfl,hi,HI,HB,HG⟩:=hrel
    by_cases hlt:i<l0.length
    ·have c3:decide ((i:Int)<(l0.length:Int))=true:=decide_eq_true (by omega)
     have c4:decide (i<l0.length)=true:=decide_eq_true hlt
     obtain⟨ad2,e2,hx⟩:=Kd.asz HR.out (i:Int) (by omega) (by omega)
     subst e2
     rw [Int.toNat_natCast]at hx
     replace hx:=(HB.out.cell (World.block_lt_of_cell? w _ hx)).trans hx
     have HW:=Qz.k (show wrap64 ((i:Int)+1)=((i+1:Nat):Int)from by have:=HN.out;rw [agq (by omega) (by omega)];omega)
     have hroom:=gB_room HU.out HN.out.1 hi
     have HV:=Qz.k (HU.out _ (aZz l0 (i:Int) (by omega) (by omega)))
     have HGS:=Qz.k (gB_succ l0 i)
     by_cases h0:i=0
     ·have c5:((i:Int) == 0)=true:=by rw [h0];rfl
      have HPF:=Qz.k (put_ok (w:=64) (s:=gB l0 i) (v:=rd l0 (i:Int)) (by omega) HV.out (by decide) (bl64 HV.out))
      have HIT:=Qz.k (show gItem l0 i=bitsOf 64 (rd l0 (i:Int))∧gW l0 (i+1)=gW l0 i from by rw [h0];exact⟨rfl,rfl⟩)
      clear hroom h0
      go_wp2_with (fail)
      refine(bits_Writer_Put.calls w.heap.size _ _ _ _ _ w _ HI.out HB.out HPF.out).mono ?_
      rintro e w4 ⟨rfl,hi,hb,hk⟩
      have HG4:=Qz.k (aTq HI.out hk HG.out (by decide))
      have HI4:=Qz.k hi
      have HB4:=Qz.k hb
      clear hi hb hk
      go_wp2
      go_roundg (l0.length-(i+1))
      case measure=>exact(by have:=HN.out;omega)
      case rel=>
       rw [HW.out]
       exact⟨i+1,rfl,rfl,hlt,⟨by rw [HGS.out,HIT.out.1];exact HI4.out⟩,HB4,⟨by rw [HIT.out.2];exact HG4.out⟩⟩
     ·obtain⟨j,hj⟩:∃ j,i=j+1:=⟨i-1,by omega⟩
      have c5:((i:Int) == 0)=false:=by rw [beq_eq_false_iff_ne];omega
      have c7:decide ((j:Int)<(l0.length:Int))=true:=decide_eq_true (by omega)
      have c8:decide (j<l0.length)=true:=decide_eq_true (by omega)
      have c9:j<l0.length:=by omega
      obtain⟨ad3,e3,hy⟩:=Kd.asz HR.out (j:Int) (by omega) (by omega)
      injection e3 with e3
      subst e3
      rw [Int.toNat_natCast]at hy
      replace hy:=(HB.out.cell (World.block_lt_of_cell? w _ hy)).trans hy
      have hw1:wrap64 ((i:Int)-1)=(j:Int):=by have:=HN.out;rw [agq (by omega) (by omega)];omega
      have HXU:=Qz.k (dx_U HU.out (show 0<i by omega) hlt)
      have hok:=gW_ok HU.out i hi
      have HIT:=Qz.k (show gItem l0 i=stepB (gW l0 i) (dx l0 i)from if_neg h0)
      have HWT:=Qz.k (show gW l0 (i+1)=stepW (gW l0 i) (dx l0 i)from if_neg h0)
      have hdx0:dx l0 i=xw (rd l0 (i:Int)) (rd l0 (j:Int)):=by
       unfold dx
       rw [show(i:Int)-1=(j:Int)by omega]
      have hdx:Go.bits .xor .u64 (rd l0 (i:Int)) (rd l0 (j:Int))=dx l0 i:=hdx0.symm
      generalize dx l0 i=x at *
      generalize hp:gW l0 i=p at *
      obtain⟨a,z⟩:=p
      have hcz0:wr.cell? ⟨gw,0,none⟩=some (.int .i64 a):=(aak HG.out 0).trans rfl
      have hcz1:wr.cell? ⟨gw,1,none⟩=some (.int .i64 z):=(aak HG.out 1).trans rfl
      clear hdx0 h0 hj HV hp
      by_cases hx0:x=0
      ·have c6:(x == 0)=true:=by rw [hx0];rfl
       have HPF:=Qz.k (show bits_Writer_Put.f (gB l0 i) 0 1=some (0,gB l0 i++bitsOf 1 0)from bcq (v:=0) (w:=1) (by omega) (by decide) (by decide))
       have HS:=Qz.k (show stepB (a,z) x=bitsOf 1 0∧stepW (a,z) x=(a,z)from⟨if_pos hx0,if_pos hx0⟩)
       clear hroom hx0 hok
       go_wp2_with (fail)
       refine(bits_Writer_Put.calls w.heap.size _ _ _ _ _ w _ HI.out HB.out HPF.out).mono ?_
       rintro e w4 ⟨rfl,hi,hb,hk⟩
       have HG4:=Qz.k (aTq HI.out hk HG.out (by decide))
       have HI4:=Qz.k hi
       have HB4:=Qz.k hb
       clear hi hb hk
       go_wp2
       go_roundg (l0.length-(i+1))
       case measure=>exact(by have:=HN.out;omega)
       case rel=>
        rw [HW.out]
        exact⟨i+1,rfl,rfl,hlt,⟨by rw [HGS.out,HIT.out,HS.out.1];exact HI4.out⟩,HB4,⟨by rw [HWT.out,HS.out.2];exact HG4.out⟩⟩
      ·have c6:(x == 0)=false:=by rw [beq_eq_false_iff_ne];exact hx0
       by_cases hf:bOz a z x=true
       ·obtain⟨f1,f2,f3⟩:=fitsW_true hf
        have hw:0≤a∧a≤31∧0≤z∧a+z≤63:=by
         rcases hok with e|e
         ·injection e with e1 e2
          exact absurd ⟨e1,e2⟩ f1
         ·exact e
        have HFU:=Qz.k (shr_fit HXU.out hw.1 hw.2.2.1 (by omega) f2)
        have HS:=Qz.k (show stepB (a,z) x=bitsOf 2 2++bitsOf (64-a-z).toNat (x/2 ^ z.toNat)∧stepW (a,z) x=(a,z)from⟨(if_neg hx0).trans (if_pos hf),(if_neg hx0).trans (if_pos hf)⟩)
        obtain⟨zn,rfl⟩:=Int.eq_ofNat_of_zero_le hw.2.2.1
        rw [Int.toNat_natCast]at HFU HS
        obtain⟨RW,hRW⟩:∃ RW:Nat,(64-a-(zn:Int)).toNat=RW:=⟨_,rfl⟩
        rw [hRW]at HS
        have HRS:=Qz.k (show gorilla_window_rest.f a (zn:Int)=some (RW:Int)from by
         unfold gorilla_window_rest.f
         rw [show wrap64 (64-a)=64-a from agq (by omega) (by omega),agq (by omega) (by omega)]
         congr 1
         omega)
        have HPF:=Qz.k (show bits_Writer_Put.f (gB l0 i) 2 2=some (0,gB l0 i++bitsOf 2 2)from bcq (v:=2) (w:=2) (by omega) (by decide) (by decide))
        have HPF2:=Qz.k (put_ok (s:=gB l0 i++bitsOf 2 2) (v:=x/2 ^ zn) (w:=RW) (by rw [List.length_append,auk];omega) HFU.out.1 (by omega) (by have:=HFU.out.2;omega))
        have HF:=Qz.k hf
        have hz0:(0:Int)≤(zn:Int):=by omega
        have hz1:(zn:Int)≤64:=by omega
        have hz2:zn≤64:=by omega
        clear f1 f2 f3 hw hRW hf hroom hx0 hok HFU
        go_wp2_with (fail)
        refine(gorilla_window_fits.calls a (zn:Int) x _ _ HXU.out (HT.out.below HB.out) HF.out).mono ?_
        rintro e w3 ⟨rfl,hb⟩
        have HI3:=Qz.k (HI.out.below hb)
        have HB3:=Qz.k (aaz HB.out hb)
        have HG3:=Qz.k (agz HG.out hb)
        clear hb
        go_wp2_with (fail)
        refine(bits_Writer_Put.calls w.heap.size _ _ _ _ _ w _ HI3.out HB3.out HPF.out).mono ?_
        rintro e w4 ⟨rfl,hi,hb,hk⟩
        have HG4:=Qz.k (aTq HI3.out hk HG3.out (by decide))
        have HI4:=Qz.k hi
        have HB4:=Qz.k hb
        clear hi hb hk
        have hcz40:w4.cell? ⟨gw,0,none⟩=some (.int .i64 a):=(aak HG4.out 0).trans rfl
        have hcz41:w4.cell? ⟨gw,1,none⟩=some (.int .i64 (zn:Int)):=(aak HG4.out 1).trans rfl
        go_upto_region 19 with(fail)
        refine axq (n:=8) (S:=fun w'=>w'.cell? ⟨gw,0,none⟩=some (.int .i64 a)∧w'.cell? ⟨gw,1,none⟩=some (.int .i64 (zn:Int))) (ds:=[]) (bl 8 0) (by kernel_rfl) rfl rfl ⟨hcz40,hcz41⟩ (fun hHeld=>?_)
        refine pu_ 0 60 ?_ ?_ (bl 8 1) rfl rfl (by kernel_rfl) ?_ ?_ ?_
        rotate_left 2
        ·intro w';go_simp;with_reducible rfl
        ·simp only [Act.put,putA,putZ,putS,abq,abk];rfl
        refine pu_ 1 61 ?_ ?_ (bl 8 3) rfl rfl (by kernel_rfl) ?_ ?_ ?_
        rotate_left 2
        ·intro w';go_simp;with_reducible rfl
        ·simp only [Act.put,putA,putZ,putS,abq,abk];rfl
        refine pu_ 2 62 ?_ ?_ (bl 8 7) rfl rfl (by kernel_rfl) ?_ ?_ ?_
        rotate_left 2
        ·intro w';go_simp;with_reducible rfl
        ·simp only [Act.put,putA,putZ,putS,abq,abk];rfl
        refine tk_ 3 63 ?_ ?_ (bl 8 15) rfl rfl (by kernel_rfl) hHeld ?_ ?_ ?_
        rotate_left 2
        ·rintro w' ⟨s0,s1⟩;go_simp;with_reducible rfl
        ·simp only [Act.put,putA,putZ,putS,abq,abk];rfl
        refine pu_ 4 64 ?_ ?_ (bl 8 31) rfl rfl (by kernel_rfl) ?_ ?_ ?_
        rotate_left 2
        ·intro w';go_simp;with_reducible rfl
        ·simp only [Act.put,putA,putZ,putS,abq,abk];rfl
        refine tk_ 5 65 ?_ ?_ (bl 8 63) rfl rfl (by kernel_rfl) hHeld ?_ ?_ ?_
        rotate_left 2
        ·rintro w' ⟨s0,s1⟩;go_simp;with_reducible rfl
        ·simp only [Act.put,putA,putZ,putS,abq,abk];rfl
        refine one_ (i:=6) (N:=some 66) (bl 8 127) rfl rfl (by kernel_rfl) (by decide) (fun K hK=>?_)
        refine aFq Tryz.func245 (by kernel_rfl) rfl #[.agg #[.int .i64 a,.int .i64 (zn:Int)]] (by rfl) rfl rfl (by simp only [List.map_toArray,List.map_cons,List.map_nil];first|done|rfl) ?_
        with_reducible refine(gorilla_window_rest.calls _ _ (RW:Int) _ HRS.out).mono ?_
        rintro e w8 ⟨rfl,hb⟩
        refine⟨_,rfl,?_⟩
        have HB8:=Qz.k (aaz (aez HB4.out) hb)
        have HI8:=Qz.k (ajq.below HI4.out.drew hb)
        have HG8:=Qz.k (agz (aoz HG4.out) hb)
        clear hb
        refine hK.out _ _ ⟨(aak HG8.out 0).trans rfl,(aak HG8.out 1).trans rfl⟩ (fun hHeld=>?_)
        clear hK K
        refine aHz (a':=?_) ?_ ?_
        rotate_left
        ·show Act.put _ (some 66) _=_
         simp only [Act.put,putA,putZ,putS,abq,abk]
         rfl
        refine one_ (i:=7) (N:=some 67) (bl 8 255) rfl rfl (by kernel_rfl) (by decide) (fun K hK=>?_)
        refine aFq Tryz.func236 (by kernel_rfl) rfl #[.pointer (some ⟨w.heap.size,0,none⟩),.int .u64 (x/2 ^ zn),.int .i64 (RW:Int)] (by rfl) rfl rfl (by simp only [List.map_toArray,List.map_cons,List.map_nil];first|done|rfl) ?_
        with_reducible refine(bits_Writer_Put.calls _ _ _ _ _ _ w _ HI8.out HB8.out HPF2.out).mono ?_
        rintro e w9 ⟨rfl,hi,hb,hk⟩
        refine⟨_,rfl,?_⟩
        have HG9:=Qz.k (aTq HI8.out hk HG8.out (by decide))
        have HB9:=Qz.k hb
        have HI9:=Qz.k hi
        clear hi hb hk
        refine hK.out _ _ ⟨(aak HG9.out 0).trans rfl,(aak HG9.out 1).trans rfl⟩ (fun hHeld=>?_)
        clear hK K
        refine aHz (a':=?_) ?_ ?_
        rotate_left
        ·show Act.put _ (some 67) _=_
         simp only [Act.put,putA,putZ,putS,abq,abk]
         rfl
        refine aPz (by kernel_rfl) ?_
        go_wp2
        go_roundg (l0.length-(i+1))
        case measure=>exact(by have:=HN.out;omega)
        case rel=>
         rw [HW.out]
         exact⟨i+1,rfl,rfl,hlt,⟨by rw [HGS.out,HIT.out,HS.out.1,←List.append_assoc];exact HI9.out⟩,HB9,⟨by rw [HWT.out,HS.out.2];exact HG9.out⟩⟩
       ·have hf:bOz a z x=false:=by simpa using hf
        have hw:=ld_le HXU.out
        have hzz:=tz_le HXU.out
        have hlz:=lz_tz HXU.out hx0
        have HFU:=Qz.k (shr_fit HXU.out hw.1 hzz.1 (by omega) hw.2.2)
        have hnf:¬ bOz a z x=true:=by rw [hf];decide
        have HS:=Qz.k (show stepB (a,z) x=bitsOf 2 3++(bitsOf 5 (ld x)++(bitsOf 6 (63-ld x-tz x)++bitsOf (64-ld x-tz x).toNat (x/2 ^ (tz x).toNat)))∧stepW (a,z) x=(ld x,tz x)from⟨(if_neg hx0).trans (if_neg hnf),(if_neg hx0).trans (if_neg hnf)⟩)
        have HOF:=Qz.k (fun w' h=>gorilla_of.calls x w' HXU.out h)
        generalize ld x=A at *
        generalize tz x=Z at *
        obtain⟨an,rfl⟩:=Int.eq_ofNat_of_zero_le hw.1
        obtain⟨zn,rfl⟩:=Int.eq_ofNat_of_zero_le hzz.1
        rw [Int.toNat_natCast]at HFU HS
        obtain⟨RW,hRW⟩:∃ RW:Nat,(64-(an:Int)-(zn:Int)).toNat=RW:=⟨_,rfl⟩
        obtain⟨rm,hrm⟩:∃ rm:Nat,63-(an:Int)-(zn:Int)=(rm:Int):=⟨_,(Int.toNat_of_nonneg (by omega)).symm⟩
        rw [hRW,hrm]at HS
        have HRS:=Qz.k (show gorilla_window_rest.f (an:Int) (zn:Int)=some (RW:Int)from by
         unfold gorilla_window_rest.f
         rw [show wrap64 (64-(an:Int))=64-(an:Int)from agq (by omega) (by omega),agq (by omega) (by omega)]
         congr 1
         omega)
        have hwr1:IntKind.u64.wrap (an:Int)=(an:Int):=aOq _ (by omega) (by omega)
        have hwr2:wrap64 ((RW:Int)-1)=(rm:Int):=by rw [agq (by omega) (by omega)];omega
        have hwr3:IntKind.u64.wrap (rm:Int)=(rm:Int):=aOq _ (by omega) (by omega)
        have HPF1:=Qz.k (show bits_Writer_Put.f (gB l0 i) 3 2=some (0,gB l0 i++bitsOf 2 3)from bcq (v:=3) (w:=2) (by omega) (by decide) (by decide))
        have HPF2:=Qz.k (show bits_Writer_Put.f (gB l0 i++bitsOf 2 3) (an:Int) 5=some (0,(gB l0 i++bitsOf 2 3)++bitsOf 5 (an:Int))from bcq (v:=an) (w:=5) (by rw [List.length_append,auk];omega) (by decide) (by omega))
        have HPF3:=Qz.k (show bits_Writer_Put.f ((gB l0 i++bitsOf 2 3)++bitsOf 5 (an:Int)) (rm:Int) 6=some (0,((gB l0 i++bitsOf 2 3)++bitsOf 5 (an:Int))++bitsOf 6 (rm:Int))from bcq (v:=rm) (w:=6) (by simp only [List.length_append,auk];omega) (by decide) (by omega))
        have HPF4:=Qz.k (put_ok (s:=((gB l0 i++bitsOf 2 3)++bitsOf 5 (an:Int))++bitsOf 6 (rm:Int)) (v:=x/2 ^ zn) (w:=RW) (by simp only [List.length_append,auk];omega) HFU.out.1 (by omega) (by have:=HFU.out.2;omega))
        have HF:=Qz.k hf
        have hz0:(0:Int)≤(zn:Int):=by omega
        have hz1:(zn:Int)≤64:=by omega
        have hz2:zn≤64:=by omega
        clear hw hzz hlz hRW hrm hf hnf hroom hx0 hok HFU
        go_wp2_with (fail)
        refine(gorilla_window_fits.calls a z x _ _ HXU.out (HT.out.below HB.out) HF.out).mono ?_
        rintro e w3 ⟨rfl,hb⟩
        have HI3:=Qz.k (HI.out.below hb)
        have HB3:=Qz.k (aaz HB.out hb)
        have HG3:=Qz.k (agz HG.out hb)
        clear hb
        go_wp2_with (fail)
        refine(HOF.out _ (HT.out.below HB3.out)).mono ?_
        rintro e w4 ⟨rfl,hb⟩
        have HI4:=Qz.k (HI3.out.below hb)
        have HB4:=Qz.k (aaz HB3.out hb)
        have HG4:=Qz.k (agz HG3.out hb)
        clear hb
        have hcz40:w4.cell? ⟨gw,0,none⟩=some (.int .i64 a):=(aak HG4.out 0).trans rfl
        have hcz41:w4.cell? ⟨gw,1,none⟩=some (.int .i64 z):=(aak HG4.out 1).trans rfl
        have hfz0:=afk HG4.out 0
        have hfz1:=afk HG4.out 1
        go_wp2_with (fail)
        have HG5:=Qz.k (show((w4.setCell ⟨gw,0,none⟩ (.int .i64 (an:Int))).setCell ⟨gw,1,none⟩ (.int .i64 (zn:Int))).heap[gw]? = some (.cells #[.int .i64 (an:Int),.int .i64 (zn:Int)] 242 (0,0))from by
         refine anq (cs:=#[.int .i64 (an:Int),.int .i64 z]) ?_ 1 _ rfl
         refine anq (cs:=#[.int .i64 a,.int .i64 z]) ?_ 0 _ rfl
         exact HG4.out)
        have HI5:=Qz.k (ajq.set (ajq.set HI4.out HG4.out (by decide) 0 (.int .i64 (an:Int))) (anq (cs':=#[.int .i64 (an:Int),.int .i64 z]) HG4.out 0 _ rfl) (by decide) 1 (.int .i64 (zn:Int)))
        have HB5:=Qz.k (show Below w.heap.size w ((w4.setCell ⟨gw,0,none⟩ (.int .i64 (an:Int))).setCell ⟨gw,1,none⟩ (.int .i64 (zn:Int)))from adq (adq HB4.out GE.out) GE.out)
        clear hcz40 hcz41 hfz0 hfz1
        refine(bits_Writer_Put.calls w.heap.size _ _ _ _ _ w _ HI5.out HB5.out HPF1.out).mono ?_
        rintro e w6 ⟨rfl,hi,hb,hk⟩
        have HG6:=Qz.k (aTq HI5.out hk HG5.out (by decide))
        have HI6:=Qz.k hi
        have HB6:=Qz.k hb
        clear hi hb hk
        have hcz60:w6.cell? ⟨gw,0,none⟩=some (.int .i64 (an:Int)):=(aak HG6.out 0).trans rfl
        have hcz61:w6.cell? ⟨gw,1,none⟩=some (.int .i64 (zn:Int)):=(aak HG6.out 1).trans rfl
        go_wp2_with (fail)
        refine(bits_Writer_Put.calls w.heap.size _ _ _ _ _ w _ HI6.out HB6.out HPF2.out).mono ?_
        rintro e w7 ⟨rfl,hi,hb,hk⟩
        have HG7:=Qz.k (aTq HI6.out hk HG6.out (by decide))
        have HI7:=Qz.k hi
        have HB7:=Qz.k hb
        clear hi hb hk
        have hcz70:w7.cell? ⟨gw,0,none⟩=some (.int .i64 (an:Int)):=(aak HG7.out 0).trans rfl
        have hcz71:w7.cell? ⟨gw,1,none⟩=some (.int .i64 (zn:Int)):=(aak HG7.out 1).trans rfl
        go_wp2_with (fail)
        refine(gorilla_window_rest.calls _ _ (RW:Int) _ HRS.out).mono ?_
        rintro e w8 ⟨rfl,hb⟩
        have HI8:=Qz.k (HI7.out.below hb)
        have HB8:=Qz.k (aaz HB7.out hb)
        have HG8:=Qz.k (agz HG7.out hb)
        clear hb
        go_wp2_with (fail)
        refine(bits_Writer_Put.calls w.heap.size _ _ _ _ _ w _ HI8.out HB8.out HPF3.out).mono ?_
        rintro e w10 ⟨rfl,hi,hb,hk⟩
        have HG10:=Qz.k (aTq HI8.out hk HG8.out (by decide))
        have HI10:=Qz.k hi
        have HB10:=Qz.k hb
        clear hi hb hk
        clear HI8 HB8 HG8
        have hcz100:w10.cell? ⟨gw,0,none⟩=some (.int .i64 (an:Int)):=(aak HG10.out 0).trans rfl
        have hcz101:w10.cell? ⟨gw,1,none⟩=some (.int .i64 (zn:Int)):=(aak HG10.out 1).trans rfl
        go_upto_region 19 with(fail)
        refine axq (n:=8) (S:=fun w'=>w'.cell? ⟨gw,0,none⟩=some (.int .i64 (an:Int))∧w'.cell? ⟨gw,1,none⟩=some (.int .i64 (zn:Int))) (ds:=[]) (bl 8 0) (by kernel_rfl) rfl rfl ⟨hcz100,hcz101⟩ (fun hHeld=>?_)
        refine pu_ 0 60 ?_ ?_ (bl 8 1) rfl rfl (by kernel_rfl) ?_ ?_ ?_
        rotate_left 2
        ·intro w';go_simp;with_reducible rfl
        ·simp only [Act.put,putA,putZ,putS,abq,abk];rfl
        refine pu_ 1 61 ?_ ?_ (bl 8 3) rfl rfl (by kernel_rfl) ?_ ?_ ?_
        rotate_left 2
        ·intro w';go_simp;with_reducible rfl
        ·simp only [Act.put,putA,putZ,putS,abq,abk];rfl
        refine pu_ 2 62 ?_ ?_ (bl 8 7) rfl rfl (by kernel_rfl) ?_ ?_ ?_
        rotate_left 2
        ·intro w';go_simp;with_reducible rfl
        ·simp only [Act.put,putA,putZ,putS,abq,abk];rfl
        refine tk_ 3 63 ?_ ?_ (bl 8 15) rfl rfl (by kernel_rfl) hHeld ?_ ?_ ?_
        rotate_left 2
        ·rintro w' ⟨s0,s1⟩;go_simp;with_reducible rfl
        ·simp only [Act.put,putA,putZ,putS,abq,abk];rfl
        refine pu_ 4 64 ?_ ?_ (bl 8 31) rfl rfl (by kernel_rfl) ?_ ?_ ?_
        rotate_left 2
        ·intro w';go_simp;with_reducible rfl
        ·simp only [Act.put,putA,putZ,putS,abq,abk];rfl
        refine tk_ 5 65 ?_ ?_ (bl 8 63) rfl rfl (by kernel_rfl) hHeld ?_ ?_ ?_
        rotate_left 2
        ·rintro w' ⟨s0,s1⟩;go_simp;with_reducible rfl
        ·simp only [Act.put,putA,putZ,putS,abq,abk];rfl
        refine one_ (i:=6) (N:=some 66) (bl 8 127) rfl rfl (by kernel_rfl) (by decide) (fun K hK=>?_)
        refine aFq Tryz.func245 (by kernel_rfl) rfl #[.agg #[.int .i64 (an:Int),.int .i64 (zn:Int)]] (by rfl) rfl rfl (by simp only [List.map_toArray,List.map_cons,List.map_nil];first|done|rfl) ?_
        with_reducible refine(gorilla_window_rest.calls _ _ (RW:Int) _ HRS.out).mono ?_
        rintro e w8 ⟨rfl,hb⟩
        refine⟨_,rfl,?_⟩
        have HB8:=Qz.k (aaz (aez HB10.out) hb)
        have HI8:=Qz.k (ajq.below HI10.out.drew hb)
        have HG8:=Qz.k (agz (aoz HG10.out) hb)
        clear hb
        refine hK.out _ _ ⟨(aak HG8.out 0).trans rfl,(aak HG8.out 1).trans rfl⟩ (fun hHeld=>?_)
        clear hK K
        refine aHz (a':=?_) ?_ ?_
        rotate_left
        ·show Act.put _ (some 66) _=_
         simp only [Act.put,putA,putZ,putS,abq,abk]
         rfl
        refine one_ (i:=7) (N:=some 67) (bl 8 255) rfl rfl (by kernel_rfl) (by decide) (fun K hK=>?_)
        refine aFq Tryz.func236 (by kernel_rfl) rfl #[.pointer (some ⟨w.heap.size,0,none⟩),.int .u64 (x/2 ^ zn),.int .i64 (RW:Int)] (by rfl) rfl rfl (by simp only [List.map_toArray,List.map_cons,List.map_nil];first|done|rfl) ?_
        with_reducible refine(bits_Writer_Put.calls _ _ _ _ _ _ w _ HI8.out HB8.out HPF4.out).mono ?_
        rintro e w9 ⟨rfl,hi,hb,hk⟩
        refine⟨_,rfl,?_⟩
        have HG9:=Qz.k (aTq HI8.out hk HG8.out (by decide))
        have HB9:=Qz.k hb
        have HI9:=Qz.k hi
        clear hi hb hk
        refine hK.out _ _ ⟨(aak HG9.out 0).trans rfl,(aak HG9.out 1).trans rfl⟩ (fun hHeld=>?_)
        clear hK K
        refine aHz (a':=?_) ?_ ?_
        rotate_left
        ·show Act.put _ (some 67) _=_
         simp only [Act.put,putA,putZ,putS,abq,abk]
         rfl
        refine aPz (by kernel_rfl) ?_
        go_wp2
        go_roundg (l0.length-(i+1))
        case measure=>exact(by have:=HN.out;omega)
        case rel=>
         rw [HW.out]
         exact⟨i+1,rfl,rfl,hlt,⟨by rw [HGS.out,HIT.out,HS.out.1,←List.append_assoc,←List.append_assoc,←List.append_assoc];exact HI9.out⟩,HB9,⟨by rw [HWT.out,HS.out.2];exact HG9.out⟩⟩
    ·have c3:decide ((i:Int)<(l0.length:Int))=false:=decide_eq_false (by omega)
     have c4:decide (i<l0.length)=false:=decide_eq_false hlt
     obtain rfl:i=l0.length:=by omega
     have hroom:=gB_room HU.out HN.out.1 hi
     have HBF:=Qz.k (show bits_Writer_Bytes.f (gB l0 l0.length)=some (pack (gB l0 l0.length),gB l0 l0.length)from if_pos (by omega))
     clear hroom
     go_wp2_with (fail)
     refine(bits_Writer_Bytes.calls _ _ _ _ w _ HI.out HB.out HBF.out).mono ?_
     rintro e w6 ⟨v6,rfl,ho,hi,hb,hk⟩
     have HO:=Qz.k (Kd.aiq ho (afq HB.out))
     have HB6:=Qz.k hb
     clear ho hi hb hk
     go_wp2
     go_ret2
     rw [←H.out]
     exact⟨_,rfl,HO.out,HB6.out⟩
end Go.Proofs.YthggdomocichdaaGreatDoor.P
namespace Go.Proofs.YthggdomocichdaaGreatDoor.P
open Go.RowKit Go.Proofs.YthggdomocichdaaGreatDoorW.PrintWords Go.Proofs.YthggdomocichdaaGreatDoorW.PrintLast Go.Proofs.YthggdomocichdaaGreatDoorW.PrintMore
attribute [local go_sem] awq awz aCq aCz azk azq aFz aEk
def valcodec_plain.l0 : Nat→List Int→List Int→Int→Int→Option (List Int)
 | 0,_,_,_,_=>none
 |k+1,x3,x6,x7,x8=>if x8<x7 then(if 0≤x8 then(if x8<(x6.length:Int)then((cursor_Fix.f k (rd x6 x8) 8).bind fun t256=>(if x3.length+t256.length<140737488355328 then(valcodec_plain.l0 k (x3++t256) x6 x7 (wrap64 (x8+1)))else(none)))else(none))else(none))else(some x3)
def valcodec_plain.f (k:Nat)(l0:List Int):Option (List Int):=valcodec_plain.l0 k ([]:List Int) l0 (l0.length:Int) 0
theorem valcodec_plain.atz : ∀ k,(∀ y0 y1 y2 y3,LeO (valcodec_plain.l0 k y0 y1 y2 y3) (valcodec_plain.l0 (k+1) y0 y1 y2 y3))
 | 0=>fun _ _ _ _ r h=>by simp [valcodec_plain.l0]at h
 |k+1=>by
  have ih0:=valcodec_plain.atz k
  ·intro y0 y1 y2 y3
   unfold valcodec_plain.l0
   repeat' first
   |(with_reducible exact ih0 _ _ _ _)
   |(with_reducible exact cursor_Fix.mono _ _ _)
   |(with_reducible exact LeO.refl _)
   |(with_reducible exact LeO.none _)
   |(with_reducible refine LeO.ite ?_ ?_)
   |(with_reducible refine LeO.bind ?_ (fun _=>?_))
   |exact ih0 _ _ _ _
   |exact cursor_Fix.mono _ _ _
   |exact LeO.none _
   |refine LeO.ite ?_ ?_
   |refine LeO.bind ?_ (fun _=>?_)
theorem valcodec_plain.mono : ∀ a0 k,LeO (valcodec_plain.f k a0) (valcodec_plain.f (k+1) a0):=by
 intro a0 k
 have ih0:=valcodec_plain.atz k
 unfold valcodec_plain.f
 repeat' first
   |(with_reducible exact ih0 _ _ _ _)
   |(with_reducible exact cursor_Fix.mono _ _ _)
   |(with_reducible exact LeO.refl _)
   |(with_reducible exact LeO.none _)
   |(with_reducible refine LeO.ite ?_ ?_)
   |(with_reducible refine LeO.bind ?_ (fun _=>?_))
   |exact ih0 _ _ _ _
   |exact cursor_Fix.mono _ _ _
   |exact LeO.none _
   |refine LeO.ite ?_ ?_
   |refine LeO.bind ?_ (fun _=>?_)
set_option maxHeartbeats 8000000 in
theorem valcodec_plain.calls (k:Nat)(A0:Option Addr)(c0:Nat)(l0:List Int)(r:List Int)(w:World)(hr0:Kd.C (Kd.int .u64) w A0 l0.length l0)(hc0:l0.length≤c0)(h:valcodec_plain.f k l0=some r) :
  Calls Tryz.prog 197 #[.slice A0 l0.length c0] w fun e w'=>∃ v0_:Value,e=.returned (v0_)∧Kd.R (Kd.int .u8) 5 w' w.heap.size (fun _=>True) v0_ r∧Below w.heap.size w w':=by
 have HR0:=Qz.k hr0
 have HC0:=Qz.k hc0
 clear hr0 hc0
 have HB:=Qz.k (Below.refl w.heap.size w)
 have H:(valcodec_plain.l0 k ([]:List Int) l0 (l0.length:Int) 0)=some r:=h
 clear h
 have H':=Qz.k H
 clear H
 go_enter Tryz.func197,Tryz.ntmps197
 go_wp2
 go_loopg [3,8] k (fun kq v3 v8 w'=>∃ (x3_1:List Int) (x8_1:Int),v8=.int .i64 x8_1∧Qz (valcodec_plain.l0 kq x3_1 l0 (l0.length:Int) x8_1=some r)∧Qz (kq≤k)∧Qz (Kd.R (Kd.int .u8) 5 w' w.heap.size (fun _=>True) v3 x3_1)∧Qz (Below w.heap.size w w'))
 case atStart=>exact⟨(([]:List Int)),(0),(by first|rfl|(simp;done)|(simp [*];done)),H',⟨Nat.le_refl _⟩,⟨by first|exact Kd.ayz _ _ _ _ _|exact Kd.baz _ _ _ _ _|exact Kd.a9z _ _ _ _ _|exact Kd.a9k _ _ _ _ _|exact Kd.a9q _ _ _ _ _⟩,⟨au_⟩⟩
 case round=>
  clear H'
  try clear c1
  obtain⟨x3_1,x8_1,rfl,HA,HK1,HO_3,HB⟩:=hrel
  cases gk with
  |zero=>exact absurd HA.out (by simp [valcodec_plain.l0])
  |succ k1=>
   have H:=HA.out
   clear HA
   simp only [valcodec_plain.l0]at H
   by_cases c2:x8_1<(l0.length:Int)
   ·rw [if_pos c2]at H
    have c2b0:decide (x8_1<(l0.length:Int))=true:=decide_eq_true c2
    clear c2
    by_cases c3:0≤x8_1
    ·rw [if_pos c3]at H
     have c3b0:decide (0≤x8_1)=true:=decide_eq_true c3
     clear c3
     by_cases c4:x8_1<(l0.length:Int)
     ·rw [if_pos c4]at H
      have c4b0:decide (x8_1<(l0.length:Int))=true:=decide_eq_true c4
      clear c4
      replace H:=Option.bind_eq_some_iff.mp H
      obtain⟨t256,A50,H⟩:=H
      replace H:(if x3_1.length+t256.length<140737488355328 then(valcodec_plain.l0 k1 (x3_1++t256) l0 (l0.length:Int) (wrap64 (x8_1+1)))else(none))=some r:=H
      have A5:=Qz.k A50
      clear A50
      by_cases c6:x3_1.length+t256.length<140737488355328
      ·rw [if_pos c6]at H
       have LMc6:=Qz.k c6
       clear c6
       obtain⟨y259,hy259⟩:∃ y_:List Int,y_=(x3_1++t256):=⟨_,rfl⟩
       replace H:(valcodec_plain.l0 k1 y259 l0 (l0.length:Int) (wrap64 (x8_1+1)))=some r:=by first|(rw [hy259];with_reducible exact H)|(have H2_:=(Option.bind_some _ _).symm.trans H;rw [hy259];with_reducible exact H2_)|(have H2_:=(Option.bind_some _ _).symm.trans H;with_reducible exact H2_)|with_reducible exact H|(rw [hy259];exact H)|exact H
       have Ny259:=Qz.k hy259
       clear hy259
       have H':=Qz.k H
       clear H
       have p255:0≤(x8_1:Int):=of_decide_eq_true (by first|(with_reducible assumption)|assumption)
       have q255:x8_1<(l0.length:Int):=of_decide_eq_true (by first|(with_reducible assumption)|assumption)
       obtain⟨ad255,e255,hx255_0⟩:=Kd.asz HR0.out x8_1 p255 q255
       cases e255
       replace hx255_0:=(HB.out.cell (World.block_lt_of_cell? w _ hx255_0)).trans hx255_0
       replace p255:=eq_true p255
       replace q255:=eq_true q255
       go_wp2_with (first|((with_reducible refine aiz (f:=96) rfl ?_);refine asq (some 14) rfl rfl Tryz.func96 (by kernel_rfl) rfl #[.int .u64 (rd l0 x8_1),.int .i64 8] rfl (by(try simp only [List.map_toArray,List.map_cons,List.map_nil]);first|done|rfl|(simp only [List.length_drop,List.length_take];rfl)) ?_;(with_reducible refine(cursor_Fix.calls k1 (rd l0 x8_1) 8 t256 _ A5.out).mono ?_);rintro e w7 ⟨v257,rfl,ho0,hb⟩;refine⟨_,rfl,?_⟩;have n0_:=Qz.k (Kd.aHk (al_ HO_3.out) (Kd.aRz ho0) hb);have n1_:=Qz.k (Kd.aiq (Kd.aYq ho0 (Kd.R_lt (al_ HO_3.out))) (afq au_));have n2_:=Qz.k (aaz au_ hb);clear HO_3;clear HB;have HO_3:=n0_;have HO258:=n1_;have HB:=n2_;clear n0_ n1_ n2_;(try clear hb);(try clear hb2);(try clear hk);(try clear hi);(try clear ho0);obtain⟨Ao9,co9,eo9⟩:=Kd.afz HO258.out;subst eo9)|((with_reducible refine agk (b := .append) (xs:=#[.tmp 12,.tmp 14]) rfl ?_);at_builtin;refine Kd.ahq (Kd.int .u8) (w0:=w) w.heap.size rfl (.tmp 12) (.tmp 14) 27 5 (.int .u8 0) 1 rfl Tryz.underlying27 info5 rfl (by decide) (by omega) u3 x3_1 t256 _ _ _ (fun k_=>some k_≠(.slice Ao9 t256.length co9:Value).ownBlock) (fun _=>False) rfl rfl ?aO ?aR (fun _ _ h=>h) (fun _ h=>h.elim) ?aF ?aB ?aS ?aL ?_;(case aR=>repeat(first|exact(Kd.ack HO258.out).2.2|(with_reducible refine Kd.aqk ?_ _)|(with_reducible refine Kd.aqz ?_ _)|(with_reducible refine Kd.atq ?_)));(case aB=>exact au_);(case aF=>exact(fun k_ hk=>Kd.fresh' (Kd.R_lt (al_ HO258.out)) k_ hk));(case aO=>exact(by(with_reducible repeat(first|apply Kd.akq|apply Kd.akk|apply Kd.amz));exact Kd.R_mono HO_3.out (fun _ hk=>hk.2)));(case aS=>exact(afq au_));(case aL=>have:=LMc6.out;omega);intro v260 w8 ho hb hg hat;rw [←Ny259.out]at ho;have n0_:=Qz.k (Kd.boz (ok:=(fun _=>True)) (al_ HO258.out) hg hat);have n1_:=Qz.k (hb);have n2_:=Qz.k (ho);clear HO258;clear HB;clear HO_3;have HO258:=n0_;have HB:=n1_;have HO261:=n2_;clear n0_ n1_ n2_;clear ho hb hg hat))
       go_roundg k1
       case measure=>have:=HK1.out;omega
       case rel=>exact⟨(y259),(wrap64 (x8_1+1)),(by first|rfl|(simp;done)|(simp [*];done)),H',⟨by have:=HK1.out;omega⟩,⟨by(with_reducible repeat(first|apply Kd.akq|apply Kd.akk|apply Kd.amz));exact Kd.R_mono HO261.out (fun _ hk=>trivial)⟩,⟨au_⟩⟩
      ·rw [if_neg c6]at H
       exact absurd H (by simp)
     ·rw [if_neg c4]at H
      exact absurd H (by simp)
    ·rw [if_neg c3]at H
     exact absurd H (by simp)
   ·rw [if_neg c2]at H
    have c2b0:decide (x8_1<(l0.length:Int))=false:=decide_eq_false c2
    clear c2
    obtain rfl:=Option.some.inj H
    go_wp2
    go_ret
    exact⟨_,by first|rfl|(simp [aek,aeq] <;> rfl)|(simp [*,aek,aeq] <;> rfl),by(with_reducible repeat(first|apply Kd.akq|apply Kd.akk|apply Kd.amz));exact HO_3.out,au_⟩
mutual
def valcodec_Way.j0 : Nat→List Int→Int→Bool→Option (List Int×Int)
 | 0,_,_,_=>none
 |k+1,x0,x1,x8=>if x8=true then(some (([]:List Int),1))else(if(x0.length:Int) > 65536 then(some (([]:List Int),4))else(if x1=2 then((dict_Encode.f x0).bind fun bt262=>(some (bt262.1,bt262.2)))else(if x1=3 then((gorilla_Encode.f x0).bind fun bt266=>(some (bt266.1,bt266.2)))else(if x1=0 then((valcodec_plain.f k x0).bind fun t270=>(some (t270,0)))else(valcodec_Way.l0 k x0 x0 (x0.length:Int) 0)))))
def valcodec_Way.l0 : Nat→List Int→List Int→Int→Int→Option (List Int×Int)
 | 0,_,_,_,_=>none
 |k+1,x0,x36,x37,x38=>if x38<x37 then(if 0≤x38 then(if x38<(x36.length:Int)then(if 0<(x0.length:Int)then(if(rd x36 x38)=(rd x0 0)then(valcodec_Way.l0 k x0 x36 x37 (wrap64 (x38+1)))else(some (([]:List Int),1)))else(none))else(none))else(none))else(if(x0.length:Int)=0 then(some (([]:List Int),1))else(if 1≤(x0.length:Int)then((valcodec_plain.f k (x0.take 1)).bind fun t276=>(some (t276,0)))else(none)))
end
def valcodec_Way.f (k:Nat)(l0:List Int)(a1:Int):Option (List Int×Int):=if a1<0 then(valcodec_Way.j0 k l0 a1 true)else(valcodec_Way.j0 k l0 a1 (decide (a1≥4)))
theorem valcodec_Way.atz : ∀ k,(∀ y0 y1 y2,LeO (valcodec_Way.j0 k y0 y1 y2) (valcodec_Way.j0 (k+1) y0 y1 y2))∧(∀ y0 y1 y2 y3,LeO (valcodec_Way.l0 k y0 y1 y2 y3) (valcodec_Way.l0 (k+1) y0 y1 y2 y3))
 | 0=>⟨fun _ _ _ r h=>by simp [valcodec_Way.j0]at h,fun _ _ _ _ r h=>by simp [valcodec_Way.l0]at h⟩
 |k+1=>by
  obtain⟨ih0,ih1⟩:=valcodec_Way.atz k
  refine⟨?_,?_⟩
  ·intro y0 y1 y2
   unfold valcodec_Way.j0
   repeat' first
   |(with_reducible exact ih0 _ _ _)
   |(with_reducible exact ih1 _ _ _ _)
   |(with_reducible exact valcodec_plain.mono _ _)
   |(with_reducible exact LeO.refl _)
   |(with_reducible exact LeO.none _)
   |(with_reducible refine LeO.ite ?_ ?_)
   |(with_reducible refine LeO.bind ?_ (fun _=>?_))
   |exact ih0 _ _ _
   |exact ih1 _ _ _ _
   |exact valcodec_plain.mono _ _
   |exact LeO.none _
   |refine LeO.ite ?_ ?_
   |refine LeO.bind ?_ (fun _=>?_)
  ·intro y0 y1 y2 y3
   unfold valcodec_Way.l0
   repeat' first
   |(with_reducible exact ih0 _ _ _)
   |(with_reducible exact ih1 _ _ _ _)
   |(with_reducible exact valcodec_plain.mono _ _)
   |(with_reducible exact LeO.refl _)
   |(with_reducible exact LeO.none _)
   |(with_reducible refine LeO.ite ?_ ?_)
   |(with_reducible refine LeO.bind ?_ (fun _=>?_))
   |exact ih0 _ _ _
   |exact ih1 _ _ _ _
   |exact valcodec_plain.mono _ _
   |exact LeO.none _
   |refine LeO.ite ?_ ?_
   |refine LeO.bind ?_ (fun _=>?_)
theorem valcodec_Way.mono : ∀ a0 a1 k,LeO (valcodec_Way.f k a0 a1) (valcodec_Way.f (k+1) a0 a1):=by
 intro a0 a1 k
 obtain⟨ih0,ih1⟩:=valcodec_Way.atz k
 unfold valcodec_Way.f
 repeat' first
   |(with_reducible exact ih0 _ _ _)
   |(with_reducible exact ih1 _ _ _ _)
   |(with_reducible exact valcodec_plain.mono _ _)
   |(with_reducible exact LeO.refl _)
   |(with_reducible exact LeO.none _)
   |(with_reducible refine LeO.ite ?_ ?_)
   |(with_reducible refine LeO.bind ?_ (fun _=>?_))
   |exact ih0 _ _ _
   |exact ih1 _ _ _ _
   |exact valcodec_plain.mono _ _
   |exact LeO.none _
   |refine LeO.ite ?_ ?_
   |refine LeO.bind ?_ (fun _=>?_)
set_option maxHeartbeats 8000000 in
theorem valcodec_Way.calls (k:Nat)(A0:Option Addr)(c0:Nat)(l0:List Int)(a1:Int)(r1:List Int)(r2:Int)(w:World)(hr0:Kd.C (Kd.int .u64) w A0 l0.length l0)(hc0:l0.length≤c0)(h:valcodec_Way.f k l0 a1=some (r1,r2))(hT:Tab w:=by first|assumption|exact Qz.out ‹Qz (Tab _)›|exact Tab.below (Qz.out ‹Qz (Tab _)›) (by repeat(first|(with_reducible first|exact Qz.out ‹Qz (Below _ _ _)›|apply aaq|apply adz|apply aez)))) :
  Calls Tryz.prog 151 #[.slice A0 l0.length c0,.int .i64 a1] w fun e w'=>∃ v0_:Value,e=.returned (.tuple #[v0_,.int .i64 r2])∧Kd.R (Kd.int .u8) 5 w' w.heap.size (fun _=>True) v0_ r1∧Below w.heap.size w w':=by
 have HT_:=Qz.k hT
 clear hT
 have HR0:=Qz.k hr0
 have HC0:=Qz.k hc0
 clear hr0 hc0
 have HB:=Qz.k (Below.refl w.heap.size w)
 have H:(if a1<0 then(valcodec_Way.j0 k l0 a1 true)else(valcodec_Way.j0 k l0 a1 (decide (a1≥4))))=some (r1,r2):=h
 clear h
 have HC3:=Qz.k H
 clear H
 go_enter Tryz.func151,Tryz.ntmps151
 go_upto_region 1 with(fail)
 go_cut [8] (fun v8 wc=>∃ (kq:Nat) (x8_2:Bool),v8=.bool x8_2∧Qz (valcodec_Way.j0 kq l0 a1 x8_2=some (r1,r2))∧Qz (kq≤k)∧Qz (Below w.heap.size w wc))
 case first=>
  have H:=HC3.out
  clear HC3
  by_cases c4:a1<0
  ·rw [if_pos c4]at H
   have c4b0:decide (a1<0)=true:=decide_eq_true c4
   clear c4
   (first|rw [c4b0]|(simp only [abq,abk];rw [c4b0])|skip)
   have H':=Qz.k H
   clear H
   go_wp2
   go_meet
   case rel=>exact⟨_,(true),(by first|rfl|(simp;done)|(simp [*];done)),H',⟨by first|omega|exact Nat.le_refl _⟩,⟨au_⟩⟩
  ·rw [if_neg c4]at H
   have c4b0:decide (a1<0)=false:=decide_eq_false c4
   clear c4
   (first|rw [c4b0]|(simp only [abq,abk];rw [c4b0])|skip)
   have H':=Qz.k H
   clear H
   go_wp2
   go_meet
   case rel=>exact⟨_,(decide (a1≥4)),(by first|rfl|(simp;done)|(simp [*];done)),H',⟨by first|omega|exact Nat.le_refl _⟩,⟨au_⟩⟩
 case rest=>
  clear HC3
  try clear c1
  try clear p2
  try clear c4
  try clear c4b0
  obtain⟨kq,x8_2,rfl,HA,HJ2,HB⟩:=hcut
  cases kq with
  |zero=>exact absurd HA.out (by simp [valcodec_Way.j0])
  |succ kj2=>
   have H:=HA.out
   clear HA
   simp only [valcodec_Way.j0]at H
   by_cases c5:x8_2=true
   ·subst c5
    have H1:(some (([]:List Int),1))=some (r1,r2):=by rw [if_pos rfl]at H;exact H
    clear H
    have H:=H1
    clear H1
    simp only [Option.some.injEq,Prod.mk.injEq]at H
    obtain⟨rfl,rfl⟩:=H
    go_wp2
    go_ret2
    exact⟨_,by first|rfl|(simp [aek,aeq] <;> rfl)|(simp [*,aek,aeq] <;> rfl),by first|exact Kd.ayz _ _ _ _ _|exact Kd.baz _ _ _ _ _|exact Kd.a9z _ _ _ _ _|exact Kd.a9k _ _ _ _ _|exact Kd.a9q _ _ _ _ _,au_⟩
   ·replace c5:=Bool.eq_false_iff.mpr c5
    subst c5
    have H1:(if(l0.length:Int) > 65536 then(some (([]:List Int),4))else(if a1=2 then((dict_Encode.f l0).bind fun bt262=>(some (bt262.1,bt262.2)))else(if a1=3 then((gorilla_Encode.f l0).bind fun bt266=>(some (bt266.1,bt266.2)))else(if a1=0 then((valcodec_plain.f kj2 l0).bind fun t270=>(some (t270,0)))else(valcodec_Way.l0 kj2 l0 l0 (l0.length:Int) 0)))))=some (r1,r2):=by rw [if_neg (show ¬ (false=true)by decide)]at H;exact H
    clear H
    have H:=H1
    clear H1
    by_cases c6:(l0.length:Int) > 65536
    ·rw [if_pos c6]at H
     have c6b0:decide (65536<(l0.length:Int))=true:=decide_eq_true c6
     have c6b1:decide (65536<l0.length)=true:=decide_eq_true (by omega)
     clear c6
     simp only [Option.some.injEq,Prod.mk.injEq]at H
     obtain⟨rfl,rfl⟩:=H
     go_wp2
     go_ret2
     exact⟨_,by first|rfl|(simp [aek,aeq] <;> rfl)|(simp [*,aek,aeq] <;> rfl),by first|exact Kd.ayz _ _ _ _ _|exact Kd.baz _ _ _ _ _|exact Kd.a9z _ _ _ _ _|exact Kd.a9k _ _ _ _ _|exact Kd.a9q _ _ _ _ _,au_⟩
    ·rw [if_neg c6]at H
     have c6b0:decide (65536<(l0.length:Int))=false:=decide_eq_false c6
     have c6b1:decide (65536<l0.length)=false:=decide_eq_false (by omega)
     clear c6
     by_cases c7:a1=2
     ·rw [if_pos c7]at H
      have c7b0:(a1 == 2)=true:=beq_iff_eq.mpr c7
      have c7b1:(a1 != 2)=false:=bne_eq_false_iff_eq.mpr c7
      clear c7
      replace H:=Option.bind_eq_some_iff.mp H
      obtain⟨⟨t262,t263⟩,A80,H⟩:=H
      replace H:(some (t262,t263))=some (r1,r2):=H
      have A8:=Qz.k A80
      clear A80
      simp only [Option.some.injEq,Prod.mk.injEq]at H
      obtain⟨rfl,rfl⟩:=H
      go_wp2_with (first|((with_reducible refine aiz (f:=195) rfl ?_);refine asq (some 23) rfl rfl Tryz.func195 (by kernel_rfl) rfl #[.slice A0 l0.length c0] rfl (by(try simp only [List.map_toArray,List.map_cons,List.map_nil]);first|done|rfl|(simp only [List.length_drop,List.length_take];rfl)) ?_;(with_reducible refine(dict_Encode.calls _ _ l0 t262 t263 _ ?side1 ?side2 A8.out).mono ?_);(case side1=>repeat(first|exact(Kd.acz HR0.out HB.out)|(with_reducible refine Kd.aqk ?_ _)|(with_reducible refine Kd.aqz ?_ _)|(with_reducible refine Kd.atq ?_)));(case side2=>exact HC0.out);rintro e w9 ⟨v264,rfl,ho0,hb⟩;refine⟨_,rfl,?_⟩;have n0_:=Qz.k (Kd.aiq ho0 (afq au_));have n1_:=Qz.k (aaz au_ hb);clear HB;have HO265:=n0_;have HB:=n1_;clear n0_ n1_;(try clear hb);(try clear hb2);(try clear hk);(try clear hi);(try clear ho0)))
      go_ret2
      exact⟨_,by first|rfl|(simp [aek,aeq] <;> rfl)|(simp [*,aek,aeq] <;> rfl),by(with_reducible repeat(first|apply Kd.akq|apply Kd.akk|apply Kd.amz));exact HO265.out,au_⟩
     ·rw [if_neg c7]at H
      have c7b0:(a1 == 2)=false:=beq_eq_false_iff_ne.mpr c7
      have c7b1:(a1 != 2)=true:=bne_iff_ne.mpr c7
      by_cases c10:a1=3
      ·rw [if_pos c10]at H
       have c10b0:(a1 == 3)=true:=beq_iff_eq.mpr c10
       have c10b1:(a1 != 3)=false:=bne_eq_false_iff_eq.mpr c10
       clear c10
       replace H:=Option.bind_eq_some_iff.mp H
       obtain⟨⟨t266,t267⟩,A110,H⟩:=H
       replace H:(some (t266,t267))=some (r1,r2):=H
       have A11:=Qz.k A110
       clear A110
       simp only [Option.some.injEq,Prod.mk.injEq]at H
       obtain⟨rfl,rfl⟩:=H
       go_wp2_with (first|((with_reducible refine aiz (f:=196) rfl ?_);refine asq (some 29) rfl rfl Tryz.func196 (by kernel_rfl) rfl #[.slice A0 l0.length c0] rfl (by(try simp only [List.map_toArray,List.map_cons,List.map_nil]);first|done|rfl|(simp only [List.length_drop,List.length_take];rfl)) ?_;(with_reducible refine(gorilla_Encode.calls _ _ l0 t266 t267 _ ?side1 ?side2 A11.out).mono ?_);(case side1=>repeat(first|exact(Kd.acz HR0.out HB.out)|(with_reducible refine Kd.aqk ?_ _)|(with_reducible refine Kd.aqz ?_ _)|(with_reducible refine Kd.atq ?_)));(case side2=>exact HC0.out);rintro e w12 ⟨v268,rfl,ho0,hb⟩;refine⟨_,rfl,?_⟩;have n0_:=Qz.k (Kd.aiq ho0 (afq au_));have n1_:=Qz.k (aaz au_ hb);clear HB;have HO269:=n0_;have HB:=n1_;clear n0_ n1_;(try clear hb);(try clear hb2);(try clear hk);(try clear hi);(try clear ho0)))
       go_ret2
       exact⟨_,by first|rfl|(simp [aek,aeq] <;> rfl)|(simp [*,aek,aeq] <;> rfl),by(with_reducible repeat(first|apply Kd.akq|apply Kd.akk|apply Kd.amz));exact HO269.out,au_⟩
      ·rw [if_neg c10]at H
       have c10b0:(a1 == 3)=false:=beq_eq_false_iff_ne.mpr c10
       have c10b1:(a1 != 3)=true:=bne_iff_ne.mpr c10
       by_cases c13:a1=0
       ·rw [if_pos c13]at H
        have c13b0:(a1 == 0)=true:=beq_iff_eq.mpr c13
        have c13b1:(a1 != 0)=false:=bne_eq_false_iff_eq.mpr c13
        clear c13
        replace H:=Option.bind_eq_some_iff.mp H
        obtain⟨t270,A140,H⟩:=H
        replace H:(some (t270,0))=some (r1,r2):=H
        have A14:=Qz.k A140
        clear A140
        simp only [Option.some.injEq,Prod.mk.injEq]at H
        obtain⟨rfl,rfl⟩:=H
        go_wp2_with (first|((with_reducible refine aiz (f:=197) rfl ?_);refine asq (some 35) rfl rfl Tryz.func197 (by kernel_rfl) rfl #[.slice A0 l0.length c0] rfl (by(try simp only [List.map_toArray,List.map_cons,List.map_nil]);first|done|rfl|(simp only [List.length_drop,List.length_take];rfl)) ?_;(with_reducible refine(valcodec_plain.calls kj2 _ _ l0 t270 _ ?side1 ?side2 A14.out).mono ?_);(case side1=>repeat(first|exact(Kd.acz HR0.out HB.out)|(with_reducible refine Kd.aqk ?_ _)|(with_reducible refine Kd.aqz ?_ _)|(with_reducible refine Kd.atq ?_)));(case side2=>exact HC0.out);rintro e w15 ⟨v271,rfl,ho0,hb⟩;refine⟨_,rfl,?_⟩;have n0_:=Qz.k (Kd.aiq ho0 (afq au_));have n1_:=Qz.k (aaz au_ hb);clear HB;have HO272:=n0_;have HB:=n1_;clear n0_ n1_;(try clear hb);(try clear hb2);(try clear hk);(try clear hi);(try clear ho0)))
        go_ret2
        exact⟨_,by first|rfl|(simp [aek,aeq] <;> rfl)|(simp [*,aek,aeq] <;> rfl),by(with_reducible repeat(first|apply Kd.akq|apply Kd.akk|apply Kd.amz));exact HO272.out,au_⟩
       ·rw [if_neg c13]at H
        have c13b0:(a1 == 0)=false:=beq_eq_false_iff_ne.mpr c13
        have c13b1:(a1 != 0)=true:=bne_iff_ne.mpr c13
        have H':=Qz.k H
        clear H
        go_wp2
        go_loopg [38] kj2 (fun kq v38 w'=>∃ (x38_2:Int),v38=.int .i64 x38_2∧Qz (valcodec_Way.l0 kq l0 l0 (l0.length:Int) x38_2=some (r1,r2))∧Qz (kq≤kj2)∧Qz (Below w.heap.size w w'))
        case atStart=>exact⟨(0),(by first|rfl|(simp;done)|(simp [*];done)),H',⟨Nat.le_refl _⟩,⟨au_⟩⟩
        case round=>
         clear H'
         try clear c1
         try clear p2
         try clear c4
         try clear c4b0
         try clear c5
         try clear c6
         try clear c6b0
         try clear c6b1
         try clear c7
         try clear c7b0
         try clear c7b1
         try clear c10
         try clear c10b0
         try clear c10b1
         try clear c13
         try clear c13b0
         try clear c13b1
         try clear c15
         try clear p2
         obtain⟨x38_2,rfl,HA,HK2,HB⟩:=hrel
         cases gk with
         |zero=>exact absurd HA.out (by simp [valcodec_Way.l0])
         |succ k2=>
          have H:=HA.out
          clear HA
          simp only [valcodec_Way.l0]at H
          by_cases c16:x38_2<(l0.length:Int)
          ·rw [if_pos c16]at H
           have c16b0:decide (x38_2<(l0.length:Int))=true:=decide_eq_true c16
           clear c16
           by_cases c17:0≤x38_2
           ·rw [if_pos c17]at H
            have c17b0:decide (0≤x38_2)=true:=decide_eq_true c17
            clear c17
            by_cases c18:x38_2<(l0.length:Int)
            ·rw [if_pos c18]at H
             have c18b0:decide (x38_2<(l0.length:Int))=true:=decide_eq_true c18
             clear c18
             by_cases c19:0<(l0.length:Int)
             ·rw [if_pos c19]at H
              have c19b0:decide (0<(l0.length:Int))=true:=decide_eq_true c19
              have c19b1:decide (0<l0.length)=true:=decide_eq_true (by omega)
              clear c19
              by_cases c20:(rd l0 x38_2)=(rd l0 0)
              ·rw [if_pos c20]at H
               have c20b0:((rd l0 x38_2) ==(rd l0 0))=true:=beq_iff_eq.mpr c20
               have c20b1:((rd l0 x38_2) !=(rd l0 0))=false:=bne_eq_false_iff_eq.mpr c20
               clear c20
               have H':=Qz.k H
               clear H
               have p273:0≤(x38_2:Int):=of_decide_eq_true (by first|(with_reducible assumption)|assumption)
               have q273:x38_2<(l0.length:Int):=of_decide_eq_true (by first|(with_reducible assumption)|assumption)
               obtain⟨ad273,e273,hx273_0⟩:=Kd.asz HR0.out x38_2 p273 q273
               cases e273
               replace hx273_0:=(HB.out.cell (World.block_lt_of_cell? w _ hx273_0)).trans hx273_0
               replace p273:=eq_true p273
               replace q273:=eq_true q273
               have p274:0≤(0:Int):=(by omega)
               have q274:0<(l0.length:Int):=of_decide_eq_true (by first|(with_reducible assumption)|assumption)
               obtain⟨ad274,e274,hx274_0⟩:=Kd.asz HR0.out 0 p274 q274
               obtain rfl:ad273=ad274:=(by injection e274)
               have qi274:(0<l0.length)=True:=eq_true (by omega)
               (try rw [show((0:Int)).toNat=0 from rfl]at hx274_0)
               (try rw [Addr.add_zero']at hx274_0)
               replace hx274_0:=(HB.out.cell (World.block_lt_of_cell? w _ hx274_0)).trans hx274_0
               replace p274:=eq_true p274
               replace q274:=eq_true q274
               go_wp2
               go_roundg k2
               case measure=>have:=HJ2.out;have:=HK2.out;omega
               case rel=>exact⟨(wrap64 (x38_2+1)),(by first|rfl|(simp;done)|(simp [*];done)),H',⟨by have:=HJ2.out;have:=HK2.out;omega⟩,⟨au_⟩⟩
              ·rw [if_neg c20]at H
               have c20b0:((rd l0 x38_2) ==(rd l0 0))=false:=beq_eq_false_iff_ne.mpr c20
               have c20b1:((rd l0 x38_2) !=(rd l0 0))=true:=bne_iff_ne.mpr c20
               simp only [Option.some.injEq,Prod.mk.injEq]at H
               obtain⟨rfl,rfl⟩:=H
               have p273:0≤(x38_2:Int):=of_decide_eq_true (by first|(with_reducible assumption)|assumption)
               have q273:x38_2<(l0.length:Int):=of_decide_eq_true (by first|(with_reducible assumption)|assumption)
               obtain⟨ad273,e273,hx273_0⟩:=Kd.asz HR0.out x38_2 p273 q273
               cases e273
               replace hx273_0:=(HB.out.cell (World.block_lt_of_cell? w _ hx273_0)).trans hx273_0
               replace p273:=eq_true p273
               replace q273:=eq_true q273
               have p274:0≤(0:Int):=(by omega)
               have q274:0<(l0.length:Int):=of_decide_eq_true (by first|(with_reducible assumption)|assumption)
               obtain⟨ad274,e274,hx274_0⟩:=Kd.asz HR0.out 0 p274 q274
               obtain rfl:ad273=ad274:=(by injection e274)
               have qi274:(0<l0.length)=True:=eq_true (by omega)
               (try rw [show((0:Int)).toNat=0 from rfl]at hx274_0)
               (try rw [Addr.add_zero']at hx274_0)
               replace hx274_0:=(HB.out.cell (World.block_lt_of_cell? w _ hx274_0)).trans hx274_0
               replace p274:=eq_true p274
               replace q274:=eq_true q274
               go_wp2
               go_ret2
               exact⟨_,by first|rfl|(simp [aek,aeq] <;> rfl)|(simp [*,aek,aeq] <;> rfl),by first|exact Kd.ayz _ _ _ _ _|exact Kd.baz _ _ _ _ _|exact Kd.a9z _ _ _ _ _|exact Kd.a9k _ _ _ _ _|exact Kd.a9q _ _ _ _ _,au_⟩
             ·rw [if_neg c19]at H
              exact absurd H (by simp)
            ·rw [if_neg c18]at H
             exact absurd H (by simp)
           ·rw [if_neg c17]at H
            exact absurd H (by simp)
          ·rw [if_neg c16]at H
           have c16b0:decide (x38_2<(l0.length:Int))=false:=decide_eq_false c16
           clear c16
           by_cases c21:(l0.length:Int)=0
           ·rw [if_pos c21]at H
            have c21b0:((l0.length:Int) == 0)=true:=beq_iff_eq.mpr c21
            have c21b1:((l0.length:Int) != 0)=false:=bne_eq_false_iff_eq.mpr c21
            clear c21
            simp only [Option.some.injEq,Prod.mk.injEq]at H
            obtain⟨rfl,rfl⟩:=H
            go_wp2
            go_ret2
            exact⟨_,by first|rfl|(simp [aek,aeq] <;> rfl)|(simp [*,aek,aeq] <;> rfl),by first|exact Kd.ayz _ _ _ _ _|exact Kd.baz _ _ _ _ _|exact Kd.a9z _ _ _ _ _|exact Kd.a9k _ _ _ _ _|exact Kd.a9q _ _ _ _ _,au_⟩
           ·rw [if_neg c21]at H
            have c21b0:((l0.length:Int) == 0)=false:=beq_eq_false_iff_ne.mpr c21
            have c21b1:((l0.length:Int) != 0)=true:=bne_iff_ne.mpr c21
            have c21b2:¬ (l0=[]):=fun h_=>c21 (by rw [h_];rfl)
            by_cases c22:1≤(l0.length:Int)
            ·rw [if_pos c22]at H
             have c22b0:=eq_true c22
             have c22b1:decide (1≤(l0.length:Int))=true:=decide_eq_true c22
             clear c22
             replace H:=Option.bind_eq_some_iff.mp H
             obtain⟨t276,A230,H⟩:=H
             replace H:(some (t276,0))=some (r1,r2):=H
             have A23:=Qz.k A230
             clear A230
             simp only [Option.some.injEq,Prod.mk.injEq]at H
             obtain⟨rfl,rfl⟩:=H
             obtain⟨i024,hi024,_,hsz24,_⟩:=info_parts bNq
             obtain⟨hcut24,hA24,hC24⟩:=bsq (P:=Tryz.prog) (Value.int .u64) 0 81 22 .i64 Tryz.underlying81 hi024 hsz24 A0 c0 l0 1 (by omega) (of_decide_eq_true (by first|(with_reducible assumption)|assumption)) HC0.out
             have HR275:=Qz.k (Kd.aSk (h1:=fun _=>rfl) (hA24 _ (Kd.aRk HR0.out)))
             have HC275:=Qz.k hC24
             clear hA24 hC24 hi024 hsz24
             go_wp2_with (first|((with_reducible refine aiz (f:=197) rfl ?_);refine asq (some 53) rfl rfl Tryz.func197 (by kernel_rfl) rfl #[.slice A0 (l0.take 1).length c0] rfl (by(try simp only [List.map_toArray,List.map_cons,List.map_nil]);first|done|(rw [show(l0.take 1).length=1 from(by rw [List.length_take];have h_:(1:Int)≤(l0.length:Int):=of_decide_eq_true (by first|(with_reducible assumption)|assumption);omega)] <;> rfl)|rfl|(simp only [List.length_drop,List.length_take];rfl)) ?_;(with_reducible refine(valcodec_plain.calls k2 _ _ (l0.take 1) t276 _ ?side1 ?side2 A23.out).mono ?_);(case side1=>repeat(first|exact(Kd.acz HR275.out HB.out)|(with_reducible refine Kd.aqk ?_ _)|(with_reducible refine Kd.aqz ?_ _)|(with_reducible refine Kd.atq ?_)));(case side2=>exact HC275.out);rintro e w25 ⟨v277,rfl,ho0,hb⟩;refine⟨_,rfl,?_⟩;have n0_:=Qz.k (Kd.aiq ho0 (afq au_));have n1_:=Qz.k (aaz au_ hb);clear HB;have HO278:=n0_;have HB:=n1_;clear n0_ n1_;(try clear hb);(try clear hb2);(try clear hk);(try clear hi);(try clear ho0)))
             go_ret2
             exact⟨_,by first|rfl|(simp [aek,aeq] <;> rfl)|(simp [*,aek,aeq] <;> rfl),by(with_reducible repeat(first|apply Kd.akq|apply Kd.akk|apply Kd.amz));exact HO278.out,au_⟩
            ·rw [if_neg c22]at H
             exact absurd H (by simp)
def caskettop_key.l0 : Nat→Int→List Int→Int→Option (List Int)
 | 0,_,_,_=>none
 |k+1,x0,x3,x4=>if x4<8 then(if 0≤(IntKind.u64.wrap (wrap64 (8*x4)))then(if 0≤x4 then(if x4<(x3.length:Int)then(caskettop_key.l0 k x0 (x3.set (x4:Int).toNat ((shr .u64 (IntKind.u64.wrap (x0)) (IntKind.u64.wrap (wrap64 (8*x4))))%256)) (wrap64 (x4+1)))else(none))else(none))else(none))else(some x3)
def caskettop_key.f (k:Nat)(a0:Int):Option (List Int):=if 32≤281474976710656 then(caskettop_key.l0 k a0 (List.replicate 32 0) 0)else(none)
theorem caskettop_key.atz : ∀ k,(∀ y0 y1 y2,LeO (caskettop_key.l0 k y0 y1 y2) (caskettop_key.l0 (k+1) y0 y1 y2))
 | 0=>fun _ _ _ r h=>by simp [caskettop_key.l0]at h
 |k+1=>by
  have ih0:=caskettop_key.atz k
  ·intro y0 y1 y2
   unfold caskettop_key.l0
   repeat' first
   |(with_reducible exact ih0 _ _ _)
   |(with_reducible exact LeO.refl _)
   |(with_reducible exact LeO.none _)
   |(with_reducible refine LeO.ite ?_ ?_)
   |(with_reducible refine LeO.bind ?_ (fun _=>?_))
   |exact ih0 _ _ _
   |exact LeO.none _
   |refine LeO.ite ?_ ?_
   |refine LeO.bind ?_ (fun _=>?_)
theorem caskettop_key.mono : ∀ a0 k,LeO (caskettop_key.f k a0) (caskettop_key.f (k+1) a0):=by
 intro a0 k
 have ih0:=caskettop_key.atz k
 unfold caskettop_key.f
 repeat' first
   |(with_reducible exact ih0 _ _ _)
   |(with_reducible exact LeO.refl _)
   |(with_reducible exact LeO.none _)
   |(with_reducible refine LeO.ite ?_ ?_)
   |(with_reducible refine LeO.bind ?_ (fun _=>?_))
   |exact ih0 _ _ _
   |exact LeO.none _
   |refine LeO.ite ?_ ?_
   |refine LeO.bind ?_ (fun _=>?_)
set_option maxHeartbeats 8000000 in
theorem caskettop_key.calls (k:Nat)(a0:Int)(r:List Int)(w:World)(h:caskettop_key.f k a0=some r) :
  Calls Tryz.prog 9 #[.int .i64 a0] w fun e w'=>∃ v0_:Value,e=.returned (v0_)∧Kd.R (Kd.int .u8) 5 w' w.heap.size (fun _=>True) v0_ r∧Below w.heap.size w w':=by
 have HB:=Qz.k (Below.refl w.heap.size w)
 have H:(if 32≤281474976710656 then(caskettop_key.l0 k a0 (List.replicate 32 0) 0)else(none))=some r:=h
 clear h
 by_cases c2:32≤281474976710656
 ·rw [if_pos c2]at H
  have c2b0:=eq_true c2
  have c2b1:decide (32≤281474976710656)=true:=decide_eq_true c2
  clear c2
  obtain⟨y279,hy279⟩:∃ y_:List Int,y_=(List.replicate 32 0):=⟨_,rfl⟩
  replace H:(caskettop_key.l0 k a0 y279 0)=some r:=by first|(rw [hy279];with_reducible exact H)|(have H2_:=(Option.bind_some _ _).symm.trans H;rw [hy279];with_reducible exact H2_)|(have H2_:=(Option.bind_some _ _).symm.trans H;with_reducible exact H2_)|with_reducible exact H|(rw [hy279];exact H)|exact H
  have Ny279:=Qz.k hy279
  clear hy279
  have H':=Qz.k H
  clear H
  go_enter Tryz.func9,Tryz.ntmps9
  go_wp2_with (first|((with_reducible refine ahk (N:=5) rfl ?_);refine Kd.bSq (Kd.int .u8) _ 5 rfl (N:=5) rfl 27 _ _ rfl 32 rfl rfl Tryz.underlying27 (.int .u8 0) 1 info5 rfl (by decide) (by omega) 0 (ok:=fun _=>True) (okp:=fun _=>True) rfl (fun _ hk=>hk) trivial (by omega) (by omega) (Below.refl _ _) (Nat.le_refl _) ?_;intro v280 w3 ho4 hb hg_ hnew_;clear hg_ hnew_;(first|rw [←Ny279.out]at ho4|(simp only [Int.reduceToNat]at ho4;rw [←Ny279.out]at ho4));have n0_:=Qz.k (Kd.aiq ho4 (afq au_));have n1_:=Qz.k (aaz au_ hb);clear HB;have HO281:=n0_;have HB:=n1_;clear n0_ n1_;clear hb ho4))
  go_loopg [4] k (fun kq v4 w'=>∃ (x3_1:List Int) (x4_1:Int),v4=.int .i64 x4_1∧Qz (caskettop_key.l0 kq a0 x3_1 x4_1=some r)∧Qz (kq≤k)∧Qz (Kd.R (Kd.int .u8) 5 w' w.heap.size (fun _=>True) v280 x3_1)∧Qz (Below w.heap.size w w'))
  case atStart=>exact⟨(y279),(0),(by first|rfl|(simp;done)|(simp [*];done)),H',⟨Nat.le_refl _⟩,⟨by(with_reducible repeat(first|apply Kd.akq|apply Kd.akk|apply Kd.amz));exact HO281.out⟩,⟨au_⟩⟩
  case round=>
   clear H'
   try clear c2
   try clear c2b0
   try clear c2b1
   try clear p2
   obtain⟨x3_1,x4_1,rfl,HA,HK1,HO_3,HB⟩:=hrel
   cases gk with
   |zero=>exact absurd HA.out (by simp [caskettop_key.l0])
   |succ k1=>
    have H:=HA.out
    clear HA
    simp only [caskettop_key.l0]at H
    by_cases c5:x4_1<8
    ·rw [if_pos c5]at H
     have c5b0:decide (x4_1<8)=true:=decide_eq_true c5
     clear c5
     obtain⟨ji6,hji6⟩:∃ j_:Int,(IntKind.u64.wrap (wrap64 (8*x4_1)))=j_:=⟨_,rfl⟩
     replace H:(if 0≤(ji6)then(if 0≤x4_1 then(if x4_1<(x3_1.length:Int)then(caskettop_key.l0 k1 a0 (x3_1.set (x4_1:Int).toNat ((shr .u64 (IntKind.u64.wrap (a0)) (ji6))%256)) (wrap64 (x4_1+1)))else(none))else(none))else(none))=some r:=by first|(rw [hji6]at H;exact H)|(simp only [hji6]at H ⊢;exact H)
     by_cases c7:0≤(ji6)
     ·rw [if_pos c7]at H
      have c7b0:=eq_true c7
      have c7b1:decide (0≤(ji6))=true:=decide_eq_true c7
      clear c7
      obtain⟨ji8,hji8⟩:∃ j_:Int,(shr .u64 (IntKind.u64.wrap (a0)) (ji6))=j_:=⟨_,rfl⟩
      replace H:(if 0≤x4_1 then(if x4_1<(x3_1.length:Int)then(caskettop_key.l0 k1 a0 (x3_1.set (x4_1:Int).toNat ((ji8)%256)) (wrap64 (x4_1+1)))else(none))else(none))=some r:=by first|(rw [hji8]at H;exact H)|(simp only [hji8]at H ⊢;exact H)
      have hji8_:((IntKind.u64.wrap (a0))/2 ^ min (ji6).toNat 64)=ji8:=hji8
      have hji8z:(ji6)≤64→((IntKind.u64.wrap (a0))/2 ^ (ji6).toNat)=ji8:=bHq hji8
      by_cases c9:0≤x4_1
      ·rw [if_pos c9]at H
       have c9b0:decide (0≤x4_1)=true:=decide_eq_true c9
       clear c9
       by_cases c10:x4_1<(x3_1.length:Int)
       ·rw [if_pos c10]at H
        have c10b0:decide (x4_1<(x3_1.length:Int))=true:=decide_eq_true c10
        clear c10
        obtain⟨y282,hy282⟩:∃ y_:List Int,y_=(x3_1.set (x4_1:Int).toNat ((ji8)%256)):=⟨_,rfl⟩
        replace H:(caskettop_key.l0 k1 a0 y282 (wrap64 (x4_1+1)))=some r:=by first|(rw [hy282];with_reducible exact H)|(have H2_:=(Option.bind_some _ _).symm.trans H;rw [hy282];with_reducible exact H2_)|(have H2_:=(Option.bind_some _ _).symm.trans H;with_reducible exact H2_)|with_reducible exact H|(rw [hy282];exact H)|exact H
        have Ny282:=Qz.k hy282
        clear hy282
        have H':=Qz.k H
        clear H
        have p11:0≤(x4_1:Int):=of_decide_eq_true (by first|(with_reducible assumption)|assumption)
        have q11:(x4_1:Int)<((x3_1.length:Int):Int):=of_decide_eq_true (by first|(with_reducible assumption)|assumption)
        obtain⟨go11,co11,eo11,gb11,gl11,cl11,HG11⟩:=Kd.bjz HO_3.out (by omega)
        (first|cases eo11|(injection eo11 with ea_ en_ ec_;(first|subst ea_|(injection ea_ with ea_;subst ea_));subst ec_;clear en_))
        have GB11:=Qz.k gb11
        have GG11:=Qz.k HG11
        clear gb11 gl11 HG11
        obtain⟨hx11_0,hf11_0⟩:=Kd.aUq 0 HO_3.out (x4_1:Int) p11 q11
        replace p11:=eq_true p11
        replace q11:=eq_true q11
        have HP12:=Kd.R_putg HO_3.out (x4_1:Int) ((ji8)%256)
        go_wp2_with (first|((with_reducible refine bzz (t:=5) (p:=19) rfl ?_);refine bkk (t:=5) (p:=19) (v:=?vo_w13) (w1:=(wr.setCell ⟨go11,(x4_1:Int).toNat,none⟩ (.int .u8 ((ji8)%256)))) ?hg ?ho ?hn ?hr ?_;(case ho=>rfl);(case hg=>rfl);(case hn=>rfl);(case hr=>first|(go_simp;done)|(go_simp;rfl));intro w13 hw;have hg:wr.grownBy w13 (some go11):=(by rw [hw];exact HP12.2);have hp_:Kd.R (Kd.int .u8) 5 w13 w.heap.size (fun _=>True) (.slice (some ⟨go11,0,none⟩) x3_1.length co11) y282:=(by rw [hw,Ny282.out];exact HP12.1);clear HP12;have n0_:=Qz.k (hp_);have n1_:=Qz.k ((by rw [hw];exact adq (HB.out) GB11.out:Below w.heap.size w w13));clear HO_3;clear HB;have HO_3:=n0_;have HB:=n1_;clear n0_ n1_;clear hg hw hp_))
        go_roundg k1
        case measure=>have:=HK1.out;omega
        case rel=>exact⟨(y282),(wrap64 (x4_1+1)),(by first|rfl|(simp;done)|(simp [*];done)),H',⟨by have:=HK1.out;omega⟩,⟨by(with_reducible repeat(first|apply Kd.akq|apply Kd.akk|apply Kd.amz));exact HO_3.out⟩,⟨au_⟩⟩
       ·rw [if_neg c10]at H
        exact absurd H (by simp)
      ·rw [if_neg c9]at H
       exact absurd H (by simp)
     ·rw [if_neg c7]at H
      exact absurd H (by simp)
    ·rw [if_neg c5]at H
     have c5b0:decide (x4_1<8)=false:=decide_eq_false c5
     clear c5
     obtain rfl:=Option.some.inj H
     go_wp2
     go_ret
     exact⟨_,by first|rfl|(simp [aek,aeq] <;> rfl)|(simp [*,aek,aeq] <;> rfl),by(with_reducible repeat(first|apply Kd.akq|apply Kd.akk|apply Kd.amz));exact HO_3.out,au_⟩
 ·rw [if_neg c2]at H
  exact absurd H (by simp)
mutual
def caskettop_chunks.l0 : Nat→Int→Int→Int→List ByteArray→List (S43)→Int→Int→Option ((List (S43)))
 | 0,_,_,_,_,_,_,_=>none
 |k+1,x0,x1,x2,x7,x8,x9,x10=>if x10<x0 then(if 0≤(Int.tmod (wrap64 (x10+(Go.bits .and .i64 x2 1))) 3)then(if(Int.tmod (wrap64 (x10+(Go.bits .and .i64 x2 1))) 3)<(x7.length:Int)then(caskettop_chunks.l1 k x0 x1 x2 x7 x8 x9 x10 0 (rdOf ByteArray.empty x7 (Int.tmod (wrap64 (x10+(Go.bits .and .i64 x2 1))) 3)) ([]:List (S56)))else(none))else(none))else(some x8)
def caskettop_chunks.l1 : Nat→Int→Int→Int→List ByteArray→List (S43)→Int→Int→Int→ByteArray→List (S56)→Option ((List (S43)))
 | 0,_,_,_,_,_,_,_,_,_,_=>none
 |k+1,x0,x1,x2,x7,x8,x9,x10,x12,x288000,x288001=>if x12<x1 then(if x288001.length<8796093022208 then(caskettop_chunks.l1 k x0 x1 x2 x7 x8 (IntKind.u64.wrap ((IntKind.u64.wrap (x9*6364136223846793005))+1442695040888963407)) x10 (wrap64 (x12+1)) x288000 (x288001 ++ [(⟨wrap64 ((wrap64 (1000*x10))+(wrap64 (10*x12))),(IntKind.u64.wrap ((IntKind.u64.wrap (x9*6364136223846793005))+1442695040888963407))/1152921504606846976⟩:S56)]))else(none))else(if x8.length<3518437208883 then(caskettop_chunks.l0 k x0 x1 x2 x7 (x8 ++ [(⟨x288000,x288001⟩:S43)]) x9 (wrap64 (x10+1)))else(none))
end
def caskettop_chunks.f (k:Nat)(a0:Int)(a1:Int)(a2:Int):Option ((List (S43))):=caskettop_chunks.l0 k a0 a1 a2 (([(⟨#[97,110,116]⟩:ByteArray),(⟨#[98,101,101]⟩:ByteArray),(⟨#[99,97,116]⟩:ByteArray)]:List ByteArray)) ([]:List (S43)) (IntKind.u64.wrap (a2)) 0
theorem caskettop_chunks.atz : ∀ k,(∀ y0 y1 y2 y3 y4 y5 y6,LeO (caskettop_chunks.l0 k y0 y1 y2 y3 y4 y5 y6) (caskettop_chunks.l0 (k+1) y0 y1 y2 y3 y4 y5 y6))∧(∀ y0 y1 y2 y3 y4 y5 y6 y7 y8 y9,LeO (caskettop_chunks.l1 k y0 y1 y2 y3 y4 y5 y6 y7 y8 y9) (caskettop_chunks.l1 (k+1) y0 y1 y2 y3 y4 y5 y6 y7 y8 y9))
 | 0=>⟨fun _ _ _ _ _ _ _ r h=>by simp [caskettop_chunks.l0]at h,fun _ _ _ _ _ _ _ _ _ _ r h=>by simp [caskettop_chunks.l1]at h⟩
 |k+1=>by
  obtain⟨ih0,ih1⟩:=caskettop_chunks.atz k
  refine⟨?_,?_⟩
  ·intro y0 y1 y2 y3 y4 y5 y6
   unfold caskettop_chunks.l0
   repeat' first
   |(with_reducible exact ih0 _ _ _ _ _ _ _)
   |(with_reducible exact ih1 _ _ _ _ _ _ _ _ _ _)
   |(with_reducible exact LeO.refl _)
   |(with_reducible exact LeO.none _)
   |(with_reducible refine LeO.ite ?_ ?_)
   |(with_reducible refine LeO.bind ?_ (fun _=>?_))
   |exact ih0 _ _ _ _ _ _ _
   |exact ih1 _ _ _ _ _ _ _ _ _ _
   |exact LeO.none _
   |refine LeO.ite ?_ ?_
   |refine LeO.bind ?_ (fun _=>?_)
  ·intro y0 y1 y2 y3 y4 y5 y6 y7 y8 y9
   unfold caskettop_chunks.l1
   repeat' first
   |(with_reducible exact ih0 _ _ _ _ _ _ _)
   |(with_reducible exact ih1 _ _ _ _ _ _ _ _ _ _)
   |(with_reducible exact LeO.refl _)
   |(with_reducible exact LeO.none _)
   |(with_reducible refine LeO.ite ?_ ?_)
   |(with_reducible refine LeO.bind ?_ (fun _=>?_))
   |exact ih0 _ _ _ _ _ _ _
   |exact ih1 _ _ _ _ _ _ _ _ _ _
   |exact LeO.none _
   |refine LeO.ite ?_ ?_
   |refine LeO.bind ?_ (fun _=>?_)
theorem caskettop_chunks.mono : ∀ a0 a1 a2 k,LeO (caskettop_chunks.f k a0 a1 a2) (caskettop_chunks.f (k+1) a0 a1 a2):=by
 intro a0 a1 a2 k
 obtain⟨ih0,ih1⟩:=caskettop_chunks.atz k
 unfold caskettop_chunks.f
 repeat' first
   |(with_reducible exact ih0 _ _ _ _ _ _ _)
   |(with_reducible exact ih1 _ _ _ _ _ _ _ _ _ _)
   |(with_reducible exact LeO.refl _)
   |(with_reducible exact LeO.none _)
   |(with_reducible refine LeO.ite ?_ ?_)
   |(with_reducible refine LeO.bind ?_ (fun _=>?_))
   |exact ih0 _ _ _ _ _ _ _
   |exact ih1 _ _ _ _ _ _ _ _ _ _
   |exact LeO.none _
   |refine LeO.ite ?_ ?_
   |refine LeO.bind ?_ (fun _=>?_)
set_option maxHeartbeats 8000000 in
theorem caskettop_chunks.calls (k:Nat)(a0:Int)(a1:Int)(a2:Int)(r:List (S43))(w:World)(h:caskettop_chunks.f k a0 a1 a2=some r) :
  Calls Tryz.prog 7 #[.int .i64 a0,.int .i64 a1,.int .i64 a2] w fun e w'=>∃ v0_:Value,e=.returned (v0_)∧Kd.S k43 43 w' w.heap.size (fun _=>True) v0_ r∧Below w.heap.size w w':=by
 have hu43:=Tryz.underlying43
 have hu56:=Tryz.underlying56
 have HB:=Qz.k (Below.refl w.heap.size w)
 have H:(caskettop_chunks.l0 k a0 a1 a2 (([(⟨#[97,110,116]⟩:ByteArray),(⟨#[98,101,101]⟩:ByteArray),(⟨#[99,97,116]⟩:ByteArray)]:List ByteArray)) ([]:List (S43)) (IntKind.u64.wrap (a2)) 0)=some r:=h
 clear h
 obtain⟨y283,hy283⟩:∃ y_:List ByteArray,y_=(([(⟨#[97,110,116]⟩:ByteArray),(⟨#[98,101,101]⟩:ByteArray),(⟨#[99,97,116]⟩:ByteArray)]:List ByteArray)):=⟨_,rfl⟩
 replace H:(caskettop_chunks.l0 k a0 a1 a2 y283 ([]:List (S43)) (IntKind.u64.wrap (a2)) 0)=some r:=by first|(rw [hy283];with_reducible exact H)|(have H2_:=(Option.bind_some _ _).symm.trans H;rw [hy283];with_reducible exact H2_)|(have H2_:=(Option.bind_some _ _).symm.trans H;with_reducible exact H2_)|with_reducible exact H|(rw [hy283];exact H)|exact H
 have Ny283:=Qz.k hy283
 clear hy283
 have H':=Qz.k H
 clear H
 go_enter Tryz.func7,Tryz.ntmps7
 go_wp2_with (first|((with_reducible refine ahk (N:=13) rfl ?_);refine Kd.bwz Kd.string _ 9 ?hg (N:=13) ?hd (xs:=([(⟨#[97,110,116]⟩:ByteArray),(⟨#[98,101,101]⟩:ByteArray),(⟨#[99,97,116]⟩:ByteArray)]:List ByteArray)) (inner:=[.string (⟨#[97,110,116]⟩:ByteArray),.string (⟨#[98,101,101]⟩:ByteArray),.string (⟨#[99,97,116]⟩:ByteArray)]) (ok:=fun _=>True) (okp:=fun _=>True) ?hr ?hp (fun _ hk=>hk) trivial (Below.refl _ _) (Nat.le_refl _) (by simp) ?_;(case hd=>rfl);(case hg=>rfl);(case hr=>first|(go_simp;done)|(go_simp;rfl));(case hp=>exact(Reps.one (show Kd.M Kd.string _ _ _ (⟨#[97,110,116]⟩:ByteArray) [.string (⟨#[97,110,116]⟩:ByteArray)]from rfl) (Reps.one (show Kd.M Kd.string _ _ _ (⟨#[98,101,101]⟩:ByteArray) [.string (⟨#[98,101,101]⟩:ByteArray)]from rfl) (Reps.one (show Kd.M Kd.string _ _ _ (⟨#[99,97,116]⟩:ByteArray) [.string (⟨#[99,97,116]⟩:ByteArray)]from rfl) (Reps.none _ _)))));intro v284 w4 ho5 hb hg_ hnew_;clear hg_ hnew_;(first|rw [←Ny283.out]at ho5|(simp only [Int.reduceToNat]at ho5;rw [←Ny283.out]at ho5));have n0_:=Qz.k (Kd.aiq ho5 (afq au_));have n1_:=Qz.k (aaz au_ hb);clear HB;have HO285:=n0_;have HB:=n1_;clear n0_ n1_;clear hb ho5))
 go_loopg [8,9,10] k (fun kq v8 v9 v10 w'=>∃ (x8_1:List (S43)) (x9_1:Int) (x10_1:Int),v9=.int .u64 x9_1∧v10=.int .i64 x10_1∧Qz (caskettop_chunks.l0 kq a0 a1 a2 y283 x8_1 x9_1 x10_1=some r)∧Qz (kq≤k)∧Qz (Kd.R Kd.string 9 w' w.heap.size (fun _=>True) v284 y283)∧Qz (Kd.S k43 43 w' w.heap.size (fun _=>True) v8 x8_1)∧Qz (Below w.heap.size w w'))
 case atStart=>exact⟨(([]:List (S43))),(IntKind.u64.wrap (a2)),(0),(by first|rfl|(simp;done)|(simp [*];done)),(by first|rfl|(simp;done)|(simp [*];done)),H',⟨Nat.le_refl _⟩,⟨by(with_reducible repeat(first|apply Kd.akq|apply Kd.akk|apply Kd.amz));exact HO285.out⟩,⟨by first|exact Kd.a9q _ _ _ _ _|exact Kd.baz _ _ _ _ _|exact Kd.a9z _ _ _ _ _|exact Kd.a9k _ _ _ _ _|exact Kd.ayz _ _ _ _ _⟩,⟨au_⟩⟩
 case round=>
  clear H'
  try clear p2
  obtain⟨x8_1,x9_1,x10_1,rfl,rfl,HA,HK1,HO_7,HO_8,HB⟩:=hrel
  cases gk with
  |zero=>exact absurd HA.out (by simp [caskettop_chunks.l0])
  |succ k1=>
   have H:=HA.out
   clear HA
   simp only [caskettop_chunks.l0]at H
   by_cases c6:x10_1<a0
   ·rw [if_pos c6]at H
    have c6b0:decide (x10_1<a0)=true:=decide_eq_true c6
    clear c6
    obtain⟨ji7,hji7⟩:∃ j_:Int,(Int.tmod (wrap64 (x10_1+(Go.bits .and .i64 a2 1))) 3)=j_:=⟨_,rfl⟩
    replace H:(if 0≤(ji7)then(if(ji7)<(y283.length:Int)then(caskettop_chunks.l1 k1 a0 a1 a2 y283 x8_1 x9_1 x10_1 0 (rdOf ByteArray.empty y283 (ji7)) ([]:List (S56)))else(none))else(none))=some r:=by first|(rw [hji7]at H;exact H)|(simp only [hji7]at H ⊢;exact H)
    by_cases c8:0≤(ji7)
    ·rw [if_pos c8]at H
     have c8b0:decide (0≤(ji7))=true:=decide_eq_true c8
     clear c8
     by_cases c9:(ji7)<(y283.length:Int)
     ·rw [if_pos c9]at H
      have c9b0:decide ((ji7)<(y283.length:Int))=true:=decide_eq_true c9
      clear c9
      have H':=Qz.k H
      clear H
      obtain⟨Ao10,co10,eo10⟩:=Kd.afz HO_7.out
      subst eo10
      have p286:0≤((ji7):Int):=of_decide_eq_true (by first|(with_reducible assumption)|assumption)
      have q286:(ji7)<(y283.length:Int):=of_decide_eq_true (by first|(with_reducible assumption)|assumption)
      obtain⟨ad286,e286,hx286_0⟩:=Kd.aGz (Kd.ack HO_7.out).2.2 (ji7) p286 q286
      cases e286
      replace p286:=eq_true p286
      replace q286:=eq_true q286
      go_wp2_with (first|((with_reducible refine ahk (N:=11) rfl ?_);refine aik ?hg (N:=11) ?hd (cs:=#[.string (⟨#[]⟩:ByteArray),.slice none 0 0]) (t:=43) ?hr ?_;(case hd=>rfl);(case hg=>rfl);(case hr=>first|(go_simp;done)|(go_simp;rfl));intro gb287 hg w11 hbox hb;have n0_:=Qz.k (Kd.ahz (al_ HO_7.out) hb);have n1_:=Qz.k (Kd.S_below (Kd.S_elderB (by(with_reducible repeat(first|apply Kd.bfz|apply Kd.bek|apply Kd.bCz));exact HO_8.out) gb287 (Nat.le_of_eq hg.symm)) hb);have n2_:=Qz.k (aaz au_ hb);have n3_:=Qz.k (hbox);have n4_:=Qz.k ((by rw [hg];exact(afq au_):w.heap.size≤gb287));have n5_:=Qz.k ((by rw [hg];exact(afq au_):w.heap.size≤gb287));clear HO_7;clear HO_8;clear HB;have HO_7:=n0_;have HO_8:=n1_;have HB:=n2_;have BK287:=n3_;have GW287:=n4_;have GE287:=n5_;clear n0_ n1_ n2_ n3_ n4_ n5_;clear hb hbox hg;have hcz12_0:w11.cell? ⟨gb287,0,none⟩=some (.string (⟨#[]⟩:ByteArray)):=(aak BK287.out 0).trans rfl;have hcz12_1:w11.cell? ⟨gb287,1,none⟩=some (.slice none 0 0):=(aak BK287.out 1).trans rfl;have hfz12_0:=afk BK287.out 0;have hfz12_1:=afk BK287.out 1))
      go_loopg [9,12] k1 (fun kq v9 v12 w'=>∃ (x9_2:Int) (x12_2:Int) (x288001_2:List (S56)) (u288001:Value),v9=.int .u64 x9_2∧v12=.int .i64 x12_2∧Qz (caskettop_chunks.l1 kq a0 a1 a2 y283 x8_1 x9_2 x10_1 x12_2 (rdOf ByteArray.empty y283 (ji7)) x288001_2=some r)∧Qz (kq≤k1)∧Qz (Kd.R Kd.string 9 w' w.heap.size (fun _=>True) (.slice (some ad286) y283.length co10) y283)∧Qz (Kd.S k43 43 w' w.heap.size (fun k_=>some k_≠(u288001:Value).ownBlock∧k_≠gb287) u8 x8_1)∧Qz (Kd.R k56 56 w' w.heap.size (fun _=>True) u288001 x288001_2)∧Qz (w'.heap[gb287]? = some (.cells #[.string (rdOf ByteArray.empty y283 (ji7)),u288001] 43 (0,0)))∧Qz (Below w.heap.size w w'))
      case atStart=>exact⟨(x9_1),(0),(([]:List (S56))),(.slice none 0 0),(by first|rfl|(simp;done)|(simp [*];done)),(by first|rfl|(simp;done)|(simp [*];done)),H',⟨Nat.le_refl _⟩,⟨by(with_reducible repeat(first|apply Kd.akq|apply Kd.akk|apply Kd.amz));exact Kd.R_mono (Kd.aQq (p:=⟨gb287,1,none⟩) (Kd.aQq (p:=⟨gb287,0,none⟩) (Kd.aLk HO_7.out BK287.out (by decide)) (fun _ hk=>hk.2) (.string (rdOf ByteArray.empty y283 (ji7)))) (fun _ hk=>hk.2) (.slice none 0 0)) (fun _ hk=>trivial)⟩,⟨by(with_reducible repeat(first|apply Kd.bfz|apply Kd.bek|apply Kd.bCz));exact Kd.S_mono (Kd.S_far (p:=⟨gb287,1,none⟩) (Kd.S_far (p:=⟨gb287,0,none⟩) (Kd.S_mono HO_8.out (fun k_ hk=>(⟨hk,hk.2⟩:_∧k_≠gb287))) (fun _ hk=>hk.2) (.string (rdOf ByteArray.empty y283 (ji7)))) (fun _ hk=>hk.2) (.slice none 0 0)) (fun _ hk=>⟨(by simp [Value.ownBlock]),hk.1.2⟩)⟩,⟨by first|exact Kd.ayz _ _ _ _ _|exact Kd.baz _ _ _ _ _|exact Kd.a9z _ _ _ _ _|exact Kd.a9k _ _ _ _ _|exact Kd.a9q _ _ _ _ _⟩,⟨by(with_reducible repeat(first|refine aoq ?_ _|refine aoz ?_|refine aok ?_ _));refine anq (cs:=#[.string (rdOf ByteArray.empty y283 (ji7)),.slice none 0 0]) ?_ 1 _ rfl;(with_reducible repeat(first|refine aoq ?_ _|refine aoz ?_|refine aok ?_ _));refine anq (cs:=#[.string (⟨#[]⟩:ByteArray),.slice none 0 0]) ?_ 0 _ rfl;(with_reducible repeat(first|refine aoq ?_ _|refine aoz ?_|refine aok ?_ _));exact BK287.out⟩,⟨by repeat(first|(with_reducible first|exact HB.out|apply aaq|apply adz|apply aez|refine adq ?_ GE287.out)|exact HB.out)⟩⟩
      case round=>
       clear H'
       try clear p2
       try clear q2
       try clear hx2
       try clear c6
       try clear c6b0
       try clear p6
       try clear c7
       try clear c8
       try clear c8b0
       try clear c9
       try clear c9b0
       try clear hcz12_0
       try clear hcz12_1
       try clear hfz12_0
       try clear hfz12_1
       try clear hx286_0
       try clear p2
       try clear p286
       try clear q286
       obtain⟨x9_2,x12_2,x288001_2,u288001,rfl,rfl,HA,HK2,HO_7,HO_8,HO_288001,BK287,HB⟩:=hrel
       cases gk with
       |zero=>exact absurd HA.out (by simp [caskettop_chunks.l1])
       |succ k2=>
        have H:=HA.out
        clear HA
        simp only [caskettop_chunks.l1]at H
        by_cases c13:x12_2<a1
        ·rw [if_pos c13]at H
         have c13b0:decide (x12_2<a1)=true:=decide_eq_true c13
         clear c13
         by_cases c14:x288001_2.length<8796093022208
         ·rw [if_pos c14]at H
          have LMc14:=Qz.k c14
          clear c14
          obtain⟨y288,hy288⟩:∃ y_:List (S56),y_=(x288001_2 ++ [(⟨wrap64 ((wrap64 (1000*x10_1))+(wrap64 (10*x12_2))),(IntKind.u64.wrap ((IntKind.u64.wrap (x9_2*6364136223846793005))+1442695040888963407))/1152921504606846976⟩:S56)]):=⟨_,rfl⟩
          replace H:(caskettop_chunks.l1 k2 a0 a1 a2 y283 x8_1 (IntKind.u64.wrap ((IntKind.u64.wrap (x9_2*6364136223846793005))+1442695040888963407)) x10_1 (wrap64 (x12_2+1)) (rdOf ByteArray.empty y283 (ji7)) y288)=some r:=by first|(rw [hy288];with_reducible exact H)|(have H2_:=(Option.bind_some _ _).symm.trans H;rw [hy288];with_reducible exact H2_)|(have H2_:=(Option.bind_some _ _).symm.trans H;with_reducible exact H2_)|with_reducible exact H|(rw [hy288];exact H)|exact H
          have Ny288:=Qz.k hy288
          clear hy288
          have H':=Qz.k H
          clear H
          have hcz15_0:wr.cell? ⟨gb287,0,none⟩=some (.string (rdOf ByteArray.empty y283 (ji7))):=(aak BK287.out 0).trans rfl
          have hcz15_1:wr.cell? ⟨gb287,1,none⟩=some (u288001):=(aak BK287.out 1).trans rfl
          have hfz15_0:=afk BK287.out 0
          have hfz15_1:=afk BK287.out 1
          go_wp2_with (first|((with_reducible refine agk (b := .append) (xs:=#[.tmp 39,.tmp 48]) rfl ?_);at_builtin;refine Kd.aVq k56 (w0:=w) w.heap.size rfl (.tmp 39) (.tmp 48) 41 56 (.agg #[(.int .i64 0),(.int .u64 0)]) 16 rfl Tryz.underlying41 info56 rfl (by decide) (by omega) u288001 x288001_2 (⟨wrap64 ((wrap64 (1000*x10_1))+(wrap64 (10*x12_2))),(IntKind.u64.wrap ((IntKind.u64.wrap (x9_2*6364136223846793005))+1442695040888963407))/1152921504606846976⟩:S56) [.int .i64 (wrap64 ((wrap64 (1000*x10_1))+(wrap64 (10*x12_2)))),.int .u64 ((IntKind.u64.wrap ((IntKind.u64.wrap (x9_2*6364136223846793005))+1442695040888963407))/1152921504606846976)] (fun _=>True) (fun _=>False) rfl rfl ?aP (fun _ hk=>hk.elim) ?aF ?aO ?aB ?aS ?aL ?_;(case aP=>exact k56_mkM _ _ _ (⟨wrap64 ((wrap64 (1000*x10_1))+(wrap64 (10*x12_2))),(IntKind.u64.wrap ((IntKind.u64.wrap (x9_2*6364136223846793005))+1442695040888963407))/1152921504606846976⟩:S56));(case aB=>exact(by repeat(first|(with_reducible first|exact HB.out|apply aaq|apply adz|apply aez|refine adq ?_ GE287.out)|exact HB.out)));(case aF=>exact(fun _ _=>trivial));(case aO=>exact(al_ HO_288001.out));(case aS=>exact(afq (by repeat(first|(with_reducible first|exact HB.out|apply aaq|apply adz|apply aez|refine adq ?_ GE287.out)|exact HB.out))));(case aL=>have:=LMc14.out;omega);intro v289 w16 ho hb hg hat;rw [←Ny288.out]at ho;have n0_:=Qz.k (Kd.bfq (al_ HO_7.out) (Kd.aJz (al_ HO_288001.out)) (by decide) hg);have n1_:=Qz.k (Kd.S_after (ok:=(fun k_=>k_≠gb287)) (by(with_reducible repeat(first|apply Kd.bfz|apply Kd.bek|apply Kd.bCz));exact Kd.S_mono HO_8.out (fun _ hk=>⟨hk.2,hk.1⟩)) hg hat);have n2_:=Qz.k (ark (g:=gb287) (o := .cells #[.string (rdOf ByteArray.empty y283 (ji7)),u288001] 43 (0,0)) (by(with_reducible repeat(first|refine aoq ?_ _|refine aoz ?_|refine aok ?_ _));exact BK287.out) hg (Kd.R_ne HO_288001.out BK287.out (by decide)));have n3_:=Qz.k (hb);have n4_:=Qz.k (ho);clear HO_7;clear HO_8;clear BK287;clear HB;clear HO_288001;have HO_7:=n0_;have HO_8:=n1_;have BK287:=n2_;have HB:=n3_;have HO290:=n4_;clear n0_ n1_ n2_ n3_ n4_;clear ho hb hg hat;obtain⟨Ao17,co17,eo17⟩:=Kd.afz HO290.out;subst eo17;have hcz18_0:w16.cell? ⟨gb287,0,none⟩=some (.string (rdOf ByteArray.empty y283 (ji7))):=(aak BK287.out 0).trans rfl;have hcz18_1:w16.cell? ⟨gb287,1,none⟩=some (u288001):=(aak BK287.out 1).trans rfl;have hfz18_0:=afk BK287.out 0;have hfz18_1:=afk BK287.out 1))
          go_roundg k2
          case measure=>have:=HK1.out;have:=HK2.out;omega
          case rel=>exact⟨(IntKind.u64.wrap ((IntKind.u64.wrap (x9_2*6364136223846793005))+1442695040888963407)),(wrap64 (x12_2+1)),(y288),(.slice Ao17 y288.length co17),(by first|rfl|(simp;done)|(simp [*];done)),(by first|rfl|(simp;done)|(simp [*];done)),H',⟨by have:=HK1.out;have:=HK2.out;omega⟩,⟨by(with_reducible repeat(first|apply Kd.akq|apply Kd.akk|apply Kd.amz));exact Kd.R_mono (Kd.aQq (p:=⟨gb287,1,none⟩) (Kd.aLk HO_7.out BK287.out (by decide)) (fun _ hk=>hk.2) (.slice Ao17 y288.length co17)) (fun _ hk=>trivial)⟩,⟨by(with_reducible repeat(first|apply Kd.bfz|apply Kd.bek|apply Kd.bCz));exact Kd.S_mono (Kd.S_far (p:=⟨gb287,1,none⟩) (Kd.S_mono HO_8.out (fun k_ hk=>(⟨hk,hk.1⟩:_∧k_≠gb287))) (fun _ hk=>hk.2) (.slice Ao17 y288.length co17)) (fun _ hk=>⟨hk.1.2,hk.1.1⟩)⟩,⟨by(with_reducible repeat(first|apply Kd.akq|apply Kd.akk|apply Kd.amz));exact Kd.R_mono (Kd.aQq (p:=⟨gb287,1,none⟩) (Kd.aLk HO290.out BK287.out (by decide)) (fun _ hk=>hk.2) (.slice Ao17 y288.length co17)) (fun _ hk=>trivial)⟩,⟨by(with_reducible repeat(first|refine aoq ?_ _|refine aoz ?_|refine aok ?_ _));refine anq (cs:=#[.string (rdOf ByteArray.empty y283 (ji7)),u288001]) ?_ 1 _ rfl;(with_reducible repeat(first|refine aoq ?_ _|refine aoz ?_|refine aok ?_ _));exact BK287.out⟩,⟨by repeat(first|(with_reducible first|exact HB.out|apply aaq|apply adz|apply aez|refine adq ?_ GE287.out)|exact HB.out)⟩⟩
         ·rw [if_neg c14]at H
          exact absurd H (by simp)
        ·rw [if_neg c13]at H
         have c13b0:decide (x12_2<a1)=false:=decide_eq_false c13
         clear c13
         by_cases c19:x8_1.length<3518437208883
         ·rw [if_pos c19]at H
          have LMc19:=Qz.k c19
          clear c19
          obtain⟨y291,hy291⟩:∃ y_:List (S43),y_=(x8_1 ++ [(⟨(rdOf ByteArray.empty y283 (ji7)),x288001_2⟩:S43)]):=⟨_,rfl⟩
          replace H:(caskettop_chunks.l0 k2 a0 a1 a2 y283 y291 x9_2 (wrap64 (x10_1+1)))=some r:=by first|(rw [hy291];with_reducible exact H)|(have H2_:=(Option.bind_some _ _).symm.trans H;rw [hy291];with_reducible exact H2_)|(have H2_:=(Option.bind_some _ _).symm.trans H;with_reducible exact H2_)|with_reducible exact H|(rw [hy291];exact H)|exact H
          have Ny291:=Qz.k hy291
          clear hy291
          have H':=Qz.k H
          clear H
          have hcz20_0:wr.cell? ⟨gb287,0,none⟩=some (.string (rdOf ByteArray.empty y283 (ji7))):=(aak BK287.out 0).trans rfl
          have hcz20_1:wr.cell? ⟨gb287,1,none⟩=some (u288001):=(aak BK287.out 1).trans rfl
          have hfz20_0:=afk BK287.out 0
          have hfz20_1:=afk BK287.out 1
          obtain⟨Ao22,co22,eo22⟩:=Kd.afz HO_288001.out
          subst eo22
          go_wp2_with (first|((with_reducible refine agk (b := .append) (xs:=#[.tmp 51,.tmp 53]) rfl ?_);at_builtin;refine Kd.S_append k43 (w0:=w) w.heap.size rfl (.tmp 51) (.tmp 53) 24 43 (.agg #[(.string ⟨#[]⟩),(.slice none 0 0)]) 40 rfl Tryz.underlying24 info43 rfl (by decide) (by omega) u8 x8_1 (⟨(rdOf ByteArray.empty y283 (ji7)),x288001_2⟩:S43) [.string (rdOf ByteArray.empty y283 (ji7)),.slice Ao22 x288001_2.length co22] (fun k_=>k_≠gb287) (fun k_=>some k_=(.slice Ao22 x288001_2.length co22:Value).ownBlock) rfl rfl ?aP (fun k_ hk_=>((Kd.R_mono (ok':=fun k_=>((fun k_=>k_≠gb287)) k_∧some k_≠(u8:Value).ownBlock) (Kd.aLk (Kd.R_apart' (HO_288001.out) (Kd.S_typed HO_8.out) (by decide)) BK287.out (by decide)) (fun k_ hk=>⟨hk.2,hk.1.2⟩))).1 k_ hk_.symm) ?aF ?aO ?aB ?aS ?aL ?_;(case aP=>exact k43_mkM _ _ _ (⟨(rdOf ByteArray.empty y283 (ji7)),x288001_2⟩:S43) (Kd.R_mono (Kd.bSz rfl (Kd.R_mono (ok':=fun k_=>((fun k_=>k_≠gb287)) k_∧some k_≠(u8:Value).ownBlock) (Kd.aLk (Kd.R_apart' (HO_288001.out) (Kd.S_typed HO_8.out) (by decide)) BK287.out (by decide)) (fun k_ hk=>⟨hk.2,hk.1.2⟩))) (fun _ h_=>h_)));(case aB=>exact(by repeat(first|(with_reducible first|exact HB.out|apply aaq|apply adz|apply aez|refine adq ?_ GE287.out)|exact HB.out)));(case aF=>exact(fun k_ hk=>Kd.freshB (g:=gb287) (o := .cells #[.string (rdOf ByteArray.empty y283 (ji7)),.slice Ao22 x288001_2.length co22] 43 (0,0)) (by(with_reducible repeat(first|refine aoq ?_ _|refine aoz ?_|refine aok ?_ _));exact BK287.out) k_ hk));(case aO=>exact(by(with_reducible repeat(first|apply Kd.bfz|apply Kd.bek|apply Kd.bCz));exact Kd.S_mono HO_8.out (fun k_ hk=>⟨hk.2,fun e_=>hk.1 e_⟩)));(case aS=>exact(afq (by repeat(first|(with_reducible first|exact HB.out|apply aaq|apply adz|apply aez|refine adq ?_ GE287.out)|exact HB.out))));(case aL=>have:=LMc19.out;omega);intro v292 w21 ho hb hg hat;rw [←Ny291.out]at ho;have n0_:=Qz.k (Kd.bfq (al_ HO_7.out) (Kd.S_typed (by(with_reducible repeat(first|apply Kd.bfz|apply Kd.bek|apply Kd.bCz));exact HO_8.out)) (by decide) hg);have n1_:=Qz.k (ark (g:=gb287) (o := .cells #[.string (rdOf ByteArray.empty y283 (ji7)),.slice Ao22 x288001_2.length co22] 43 (0,0)) (by(with_reducible repeat(first|refine aoq ?_ _|refine aoz ?_|refine aok ?_ _));exact BK287.out) hg (Kd.S_away HO_8.out (fun _ hk=>hk.2)));have n2_:=Qz.k (hb);have n3_:=Qz.k (ho);clear HO_7;clear BK287;clear HB;clear HO_8;clear HO_288001;have HO_7:=n0_;have BK287:=n1_;have HB:=n2_;have HO293:=n3_;clear n0_ n1_ n2_ n3_;clear ho hb hg hat))
          go_roundg k2
          case measure=>have:=HK1.out;have:=HK2.out;omega
          case rel=>exact⟨(y291),(x9_2),(wrap64 (x10_1+1)),(by first|rfl|(simp;done)|(simp [*];done)),(by first|rfl|(simp;done)|(simp [*];done)),H',⟨by have:=HK1.out;have:=HK2.out;omega⟩,⟨by(with_reducible repeat(first|apply Kd.akq|apply Kd.akk|apply Kd.amz));exact HO_7.out⟩,⟨by(with_reducible repeat(first|apply Kd.bfz|apply Kd.bek|apply Kd.bCz));exact Kd.S_mono HO293.out (fun _ hk=>trivial)⟩,⟨by repeat(first|(with_reducible first|exact HB.out|apply aaq|apply adz|apply aez|refine adq ?_ GE287.out)|exact HB.out)⟩⟩
         ·rw [if_neg c19]at H
          exact absurd H (by simp)
     ·rw [if_neg c9]at H
      exact absurd H (by simp)
    ·rw [if_neg c8]at H
     exact absurd H (by simp)
   ·rw [if_neg c6]at H
    have c6b0:decide (x10_1<a0)=false:=decide_eq_false c6
    clear c6
    obtain rfl:=Option.some.inj H
    go_wp2
    go_ret
    exact⟨_,by first|rfl|(simp [aek,aeq] <;> rfl)|(simp [*,aek,aeq] <;> rfl),by(with_reducible repeat(first|apply Kd.bfz|apply Kd.bek|apply Kd.bCz));exact HO_8.out,au_⟩
def bits_RotateLeft32.f (a0:Int)(a1:Int):Option (Int):=if 0≤(Go.bits .and .u64 (IntKind.u64.wrap (a1)) 31)then(if 0≤(IntKind.u64.wrap (32-(Go.bits .and .u64 (IntKind.u64.wrap (a1)) 31)))then(some (Go.bits .or .u32 (shl .u32 a0 (Go.bits .and .u64 (IntKind.u64.wrap (a1)) 31)) (shr .u32 a0 (IntKind.u64.wrap (32-(Go.bits .and .u64 (IntKind.u64.wrap (a1)) 31))))))else(none))else(none)
set_option maxHeartbeats 8000000 in
theorem bits_RotateLeft32.calls (a0:Int)(a1:Int)(r:Int)(w:World)(h:bits_RotateLeft32.f a0 a1=some r) :
  Calls Tryz.prog 295 #[.int .u32 a0,.int .i64 a1] w fun e w'=>e=.returned (.int .u32 r)∧Drawn0 w w':=by
 have H:(if 0≤(Go.bits .and .u64 (IntKind.u64.wrap (a1)) 31)then(if 0≤(IntKind.u64.wrap (32-(Go.bits .and .u64 (IntKind.u64.wrap (a1)) 31)))then(some (Go.bits .or .u32 (shl .u32 a0 (Go.bits .and .u64 (IntKind.u64.wrap (a1)) 31)) (shr .u32 a0 (IntKind.u64.wrap (32-(Go.bits .and .u64 (IntKind.u64.wrap (a1)) 31))))))else(none))else(none))=some r:=h
 clear h
 obtain⟨ji3,hji3⟩:∃ j_:Int,(Go.bits .and .u64 (IntKind.u64.wrap (a1)) 31)=j_:=⟨_,rfl⟩
 replace H:(if 0≤(ji3)then(if 0≤(IntKind.u64.wrap (32-(ji3)))then(some (Go.bits .or .u32 (shl .u32 a0 (ji3)) (shr .u32 a0 (IntKind.u64.wrap (32-(ji3))))))else(none))else(none))=some r:=by first|(rw [hji3]at H;exact H)|(simp only [hji3]at H ⊢;exact H)
 by_cases c4:0≤(ji3)
 ·rw [if_pos c4]at H
  have c4b0:=eq_true c4
  have c4b1:decide (0≤(ji3))=true:=decide_eq_true c4
  clear c4
  obtain⟨ji5,hji5⟩:∃ j_:Int,(shl .u32 a0 (ji3))=j_:=⟨_,rfl⟩
  replace H:(if 0≤(IntKind.u64.wrap (32-(ji3)))then(some (Go.bits .or .u32 (ji5) (shr .u32 a0 (IntKind.u64.wrap (32-(ji3))))))else(none))=some r:=by first|(rw [hji5]at H;exact H)|(simp only [hji5]at H ⊢;exact H)
  have hji5_:(IntKind.u32.wrap (a0*2 ^ min (ji3).toNat 32))=ji5:=hji5
  have hji5z:(ji3)≤32→(IntKind.u32.wrap (a0*2 ^ (ji3).toNat))=ji5:=shl_small hji5
  obtain⟨ji6,hji6⟩:∃ j_:Int,(IntKind.u64.wrap (32-(ji3)))=j_:=⟨_,rfl⟩
  replace H:(if 0≤(ji6)then(some (Go.bits .or .u32 (ji5) (shr .u32 a0 (ji6))))else(none))=some r:=by first|(rw [hji6]at H;exact H)|(simp only [hji6]at H ⊢;exact H)
  by_cases c7:0≤(ji6)
  ·rw [if_pos c7]at H
   have c7b0:=eq_true c7
   have c7b1:decide (0≤(ji6))=true:=decide_eq_true c7
   clear c7
   obtain⟨ji8,hji8⟩:∃ j_:Int,(shr .u32 a0 (ji6))=j_:=⟨_,rfl⟩
   replace H:(some (Go.bits .or .u32 (ji5) (ji8)))=some r:=by first|(rw [hji8]at H;exact H)|(simp only [hji8]at H ⊢;exact H)
   have hji8_:(a0/2 ^ min (ji6).toNat 32)=ji8:=hji8
   have hji8z:(ji6)≤32→(a0/2 ^ (ji6).toNat)=ji8:=bHq hji8
   obtain rfl:=Option.some.inj H
   go_enter Tryz.func295,Tryz.ntmps295
   go_wp2
   go_ret
   exact⟨by first|rfl|(simp;done)|(simp only [←hji3,←hji5,←hji6,←hji8] <;>(first|rfl|simp))|(simp [*];done),by repeat(first|exact Drawn0.refl _|apply Drawn0.step)⟩
  ·rw [if_neg c7]at H
   exact absurd H (by simp)
 ·rw [if_neg c4]at H
  exact absurd H (by simp)
def sha_rot.f (a0:Int)(a1:Int):Option (Int):=(bits_RotateLeft32.f a0 (wrap64 (-a1))).bind fun t294=>(some t294)
set_option maxHeartbeats 8000000 in
theorem sha_rot.calls (a0:Int)(a1:Int)(r:Int)(w:World)(h:sha_rot.f a0 a1=some r) :
  Calls Tryz.prog 248 #[.int .u32 a0,.int .i64 a1] w fun e w'=>e=.returned (.int .u32 r)∧Drawn0 w w':=by
 have H:((bits_RotateLeft32.f a0 (wrap64 (-a1))).bind fun t294=>(some t294))=some r:=h
 clear h
 replace H:=Option.bind_eq_some_iff.mp H
 obtain⟨t294,A30,H⟩:=H
 replace H:(some t294)=some r:=H
 have A3:=Qz.k A30
 clear A30
 obtain rfl:=Option.some.inj H
 go_enter Tryz.func248,Tryz.ntmps248
 go_wp2_with (first|((with_reducible refine aiz (f:=295) rfl ?_);refine asq (some 8) rfl rfl Tryz.func295 (by kernel_rfl) rfl #[.int .u32 a0,.int .i64 (wrap64 (-a1))] rfl (by(try simp only [List.map_toArray,List.map_cons,List.map_nil]);first|done|rfl|(simp only [List.length_drop,List.length_take];rfl)) ?_;(with_reducible refine(bits_RotateLeft32.calls a0 (wrap64 (-a1)) t294 _ A3.out).mono ?_);rintro e w' ⟨rfl,⟨nd,rfl⟩⟩;refine⟨_,rfl,?_⟩))
 go_ret
 exact⟨by first|rfl|(simp;done)|(simp [*];done),by repeat(first|exact Drawn0.refl _|apply Drawn0.step)⟩
def chacha_right.f (l0:List Int)(l1:List Int):Option (Bool):=if(l0.length:Int)=32 then(some ((l1.length:Int) == 12))else(some false)
set_option maxHeartbeats 8000000 in
theorem chacha_right.calls (A0:Option Addr)(c0:Nat)(l0:List Int)(A1:Option Addr)(c1:Nat)(l1:List Int)(r:Bool)(w:World)(hr0:Kd.C (Kd.int .u8) w A0 l0.length l0)(hc0:l0.length≤c0)(hr1:Kd.C (Kd.int .u8) w A1 l1.length l1)(hc1:l1.length≤c1)(h:chacha_right.f l0 l1=some r) :
  Calls Tryz.prog 167 #[.slice A0 l0.length c0,.slice A1 l1.length c1] w fun e w'=>e=.returned (.bool r)∧Drawn0 w w':=by
 have HR0:=Qz.k hr0
 have HC0:=Qz.k hc0
 clear hr0 hc0
 have HR1:=Qz.k hr1
 have HC1:=Qz.k hc1
 clear hr1 hc1
 have H:(if(l0.length:Int)=32 then(some ((l1.length:Int) == 12))else(some false))=some r:=h
 clear h
 by_cases c3:(l0.length:Int)=32
 ·rw [if_pos c3]at H
  have c3b0:((l0.length:Int) == 32)=true:=beq_iff_eq.mpr c3
  have c3b1:((l0.length:Int) != 32)=false:=bne_eq_false_iff_eq.mpr c3
  clear c3
  obtain rfl:=Option.some.inj H
  go_enter Tryz.func167,Tryz.ntmps167
  go_wp2
  go_ret
  exact⟨by first|rfl|(simp;done)|(simp [*];done),by repeat(first|exact Drawn0.refl _|apply Drawn0.step)⟩
 ·rw [if_neg c3]at H
  have c3b0:((l0.length:Int) == 32)=false:=beq_eq_false_iff_ne.mpr c3
  have c3b1:((l0.length:Int) != 32)=true:=bne_iff_ne.mpr c3
  obtain rfl:=Option.some.inj H
  go_enter Tryz.func167,Tryz.ntmps167
  go_wp2
  go_ret
  exact⟨by first|rfl|(simp;done)|(simp [*];done),by repeat(first|exact Drawn0.refl _|apply Drawn0.step)⟩
def cmp_isNaN_string.f (a0:ByteArray):Option (Bool):=some (a0.toList != a0.toList)
set_option maxHeartbeats 8000000 in
theorem cmp_isNaN_string.calls (a0:ByteArray)(r:Bool)(w:World)(h:cmp_isNaN_string.f a0=some r) :
  Calls Tryz.prog 301 #[.string a0] w fun e w'=>e=.returned (.bool r)∧Drawn0 w w':=by
 have H:(some (a0.toList != a0.toList))=some r:=h
 clear h
 obtain rfl:=Option.some.inj H
 go_enter Tryz.func301,Tryz.ntmps301
 go_wp2
 go_ret
 exact⟨by first|rfl|(simp;done)|(simp [*];done),by repeat(first|exact Drawn0.refl _|apply Drawn0.step)⟩
end Go.Proofs.YthggdomocichdaaGreatDoor.P
namespace Go.Proofs.YthggdomocichdaaGreatDoor.P
open Go.RowKit Go.Proofs.YthggdomocichdaaGreatDoor.Kit Go.Proofs.YthggdomocichdaaGreatDoorW.PrintWords Go.Proofs.YthggdomocichdaaGreatDoorW.PrintLast Go.Proofs.YthggdomocichdaaGreatDoorW.PrintMore
theorem bAz {P:Program}{ops:Array Oper}{rest:List Oper}{o:Oper}{a:Act}{Q:Exit→Act→World→Prop}{w:World}{c c':Array Value}(t:TypeId)(p x:Operand)(ho:o.op=.store t p x)(hgd:o.guard=none)(hN:o.dst=none)
  (haddr:a.eval p=.pointer (some ⟨w.heap.size,0,none⟩)) (hx:a.eval x=.agg c') (hi:(P.info? t).map (·.size)=some c'.size) (hs:c.size=c'.size) (h1:c'.all (·.oneCell')=true)
  (h:wpList P ops Q rest a (w.alloc (.cells c' t))):wpList P ops Q (o :: rest) a (w.alloc (.cells c t)):=by
 refine wpList_plain hgd fun K hK=>?_
 have hrun:=run_storeAt_new (P:=P) w t c c' hi hs h1
 unfold Oper.wp execOp
 simp only [ho,haddr,hx,Sem.run_bind,Sem.run_pure,Result.andThen_ok,hrun]
 show K (a.put o.dst undef) _
 rw [hN]
 exact hK a _ h
def shaF : List Int:=[1779033703,3144134277,1013904242,2773480762,1359893119,2600822924,528734635,1541459225]
def shaK : List Int:=[0x428a2f98,0x71374491,0xb5c0fbcf,0xe9b5dba5,0x3956c25b,0x59f111f1,0x923f82a4,0xab1c5ed5,
 0xd807aa98,0x12835b01,0x243185be,0x550c7dc3,0x72be5d74,0x80deb1fe,0x9bdc06a7,0xc19bf174,
 0xe49b69c1,0xefbe4786,0x0fc19dc6,0x240ca1cc,0x2de92c6f,0x4a7484aa,0x5cb0a9dc,0x76f988da,
 0x983e5152,0xa831c66d,0xb00327c8,0xbf597fc7,0xc6e00bf3,0xd5a79147,0x06ca6351,0x14292967,
 0x27b70a85,0x2e1b2138,0x4d2c6dfc,0x53380d13,0x650a7354,0x766a0abb,0x81c2c92e,0x92722c85,
 0xa2bfe8a1,0xa81a664b,0xc24b8b70,0xc76c51a3,0xd192e819,0xd6990624,0xf40e3585,0x106aa070,
 0x19a4c116,0x1e376c08,0x2748774c,0x34b0bcb5,0x391c0cb3,0x4ed8aa4a,0x5b9cca4f,0x682e6ff3,
 0x748f82ee,0x78a5636f,0x84c87814,0x8cc70208,0x90befffa,0xa4506ceb,0xbef9a3f7,0xc67178f2]
theorem sha_first.calls (w:World):Calls Tryz.prog 198 #[] w fun e w'=>e=.returned (.agg (arrV .u32 shaF))∧Below w.heap.size w w':=by
 go_enter Tryz.func198,Tryz.ntmps198
 go_upto_region 1 with(fail)
 go_wp2_with (refine bAz (c':=arrV .u32 shaF) 177 (.tmp 0) (.tmp 1) rfl rfl rfl rfl rfl (by kernel_rfl) rfl (arrV_one _ _) ?_)
 refine bodyPost_ret (v := .agg (arrV .u32 shaF)) ?_ rfl ⟨rfl,aaq (Below.refl _ _) _⟩
 exact results_cell_row rfl _ _ w.heap.size 177 (arrV .u32 shaF) (0,0) (.array 8 149) rfl (heap_alloc_last w _) (by kernel_rfl) rfl (by kernel_rfl)
set_option maxHeartbeats 4000000 in
theorem sha_table.calls (w:World):Calls Tryz.prog 247 #[] w fun e w'=>e=.returned (.agg (arrV .u32 shaK))∧Below w.heap.size w w':=by
 go_enter Tryz.func247,Tryz.ntmps247
 go_upto_region 1 with(fail)
 go_wp2_with (refine bAz (c':=arrV .u32 shaK) 246 (.tmp 0) (.tmp 1) rfl rfl rfl rfl rfl (by kernel_rfl) rfl (arrV_one _ _) ?_)
 refine bodyPost_ret (v := .agg (arrV .u32 shaK)) ?_ rfl ⟨rfl,aaq (Below.refl _ _) _⟩
 exact results_cell_row rfl _ _ w.heap.size 246 (arrV .u32 shaK) (0,0) (.array 64 149) rfl (heap_alloc_last w _) (by kernel_rfl) rfl (by kernel_rfl)
def rotr (x n:Int):Int:=(sha_rot.f x n).getD 0
theorem rotr_some {x n:Int}(h:(sha_rot.f x n).isSome=true):sha_rot.f x n=some (rotr x n):=by
 unfold rotr
 obtain⟨y,hy⟩:=Option.isSome_iff_exists.1 h
 rw [hy]
 rfl
theorem a1z (x:Int){n:Int}(h0:0≤(Go.bits .and .u64 (IntKind.u64.wrap (wrap64 (-n))) 31))(h1:0≤(IntKind.u64.wrap (32-(Go.bits .and .u64 (IntKind.u64.wrap (wrap64 (-n))) 31)))):sha_rot.f x n=some (rotr x n):=by
 refine rotr_some ?_
 unfold sha_rot.f bits_RotateLeft32.f
 rw [if_pos h0,if_pos h1]
 rfl
def w8 (a x:Int):Int:=Go.bits .or .u32 (a*256%4294967296) (x%4294967296)
def wByte (p:List Int)(q:Nat)(a:Int):Nat→Int
 | 0=>a
 |j+1=>w8 (wByte p q a j) (rd p ((q+j:Nat):Int))
def wMix (w:List Int)(i:Nat):Int:=
 IntKind.u32.wrap (IntKind.u32.wrap (IntKind.u32.wrap (rd w ((i-16:Nat):Int)+Go.bits .xor .u32 (Go.bits .xor .u32 (rotr (rd w ((i-15:Nat):Int)) 7) (rotr (rd w ((i-15:Nat):Int)) 18)) (rd w ((i-15:Nat):Int)/8))+rd w ((i-7:Nat):Int))+Go.bits .xor .u32 (Go.bits .xor .u32 (rotr (rd w ((i-2:Nat):Int)) 17) (rotr (rd w ((i-2:Nat):Int)) 19)) (rd w ((i-2:Nat):Int)/1024))
def sTo (p:List Int):Nat→List Int
 | 0=>List.replicate 64 0
 |i+1=>(sTo p i).set i (if i<16 then wByte p (4*i) (rd (sTo p i) (i:Int)) 4 else wMix (sTo p i) i)
def sched (p:List Int):List Int:=sTo p 64
theorem bIq (p:List Int):∀ i,(sTo p i).length=64
 | 0=>List.length_replicate
 |i+1=>by rw [sTo,List.length_set,bIq p i]
theorem set_self (l:List Int)(i:Nat)(hi:i<l.length):l.set i (rd l (i:Int))=l:=by
 rw [aUk,List.getD_eq_getElem?_getD,List.getElem?_eq_getElem hi]
 exact List.set_getElem_self hi
theorem rd_set (l:List Int)(i:Nat)(v:Int)(hi:i<l.length):rd (l.set i v) (i:Int)=v:=by
 rw [aUk,List.getD_eq_getElem?_getD,List.getElem?_set_self hi]
 rfl
set_option maxHeartbeats 4000000 in
theorem sha_schedule.calls (A0:Option Addr)(c0:Nat)(p:List Int)(w:World)(hr0:Kd.C (Kd.int .u8) w A0 p.length p)(hc0:p.length≤c0)(hp:p.length=64) :
  Calls Tryz.prog 246 #[.slice A0 p.length c0] w fun e w'=>e=.returned (.agg (arrV .u32 (sched p)))∧Below w.heap.size w w':=by
 have HR:=Qz.k hr0
 have HC:=Qz.k hc0
 have HP:=Qz.k hp
 clear hr0 hc0 hp
 go_enter Tryz.func246,Tryz.ntmps246
 go_wp2_with (first
  |((with_reducible refine ahk (N:=2) rfl ?_);refine aik ?hg (N:=2) ?hd (cs:=arrV .u32 (List.replicate 64 0)) (t:=246) ?hr ?_;(case hd=>rfl);(case hg=>rfl);(case hr=>first|(go_simp;done)|(go_simp;rfl));intro g2 hg w4 hbox hb;have HB4:=Qz.k hb;have HA2:=Qz.k (show Arr w4 g2 246 .u32 (List.replicate 64 0)from hbox);have GE2:=Qz.k ((by rw [hg];exact Nat.le_refl _):w.heap.size≤g2);clear hbox hb hg)
  |((with_reducible refine ahk (N:=3) rfl ?_);refine aik ?hg (N:=3) ?hd (cs:=arrV .u32 (List.replicate 64 0)) (t:=246) ?hr ?_;(case hd=>rfl);(case hg=>rfl);(case hr=>first|(go_simp;done)|(go_simp;rfl));intro g3 hg w5 hbox hb;have HB5:=Qz.k (aaz HB4.out hb);have HA3:=Qz.k (show Arr w5 g3 246 .u32 (List.replicate 64 0)from hbox);have HA25:=Qz.k (Arr.below HA2.out hb);have GE3:=Qz.k ((by rw [hg];exact HA2.out.lt):g2<g3);clear HA2 HB4 hbox hb hg))
 have HZL:=Qz.k (show(List.replicate 64 (0:Int)).length=64 from List.length_replicate)
 go_loopg [9] 64 (fun kq v9 W'=>∃ i:Nat,v9=.int .i64 (i:Int)∧kq=64-i∧i≤64∧Qz (Arr W' g3 246 .u32 (sTo p i))∧Qz (Arr W' g2 246 .u32 (List.replicate 64 0))∧Qz (Below w.heap.size w W'))
 case atStart=>exact⟨0,rfl,rfl,by omega,HA3,HA25,HB5⟩
 case round=>
  clear HA3 HA25 HB5
  obtain⟨i,rfl,rfl,hi,HA,HZ,HB⟩:=hrel
  by_cases hlt:i<64
  ·have c3:decide ((i:Int)<64)=true:=decide_eq_true (by omega)
   have c4:decide (i<64)=true:=decide_eq_true hlt
   have HW:=Qz.k (show wrap64 ((i:Int)+1)=((i+1:Nat):Int)from by rw [agq (by omega) (by omega)];omega)
   have HLN:=Qz.k (bIq p i)
   by_cases h16:i<16
   ·have c5:decide ((i:Int)<16)=true:=decide_eq_true (by omega)
    have c6:decide (i<16)=true:=decide_eq_true h16
    obtain⟨Q,hQ⟩:∃ Q:Nat,4*i=Q:=⟨_,rfl⟩
    obtain⟨Q4,hQ4⟩:∃ Q4:Nat,Q+4=Q4:=⟨_,rfl⟩
    obtain⟨i012,hi012,_,hsz12,_⟩:=info_parts info5
    have hcut:=cut_mid (P:=Tryz.prog) 27 5 .i64 .i64 Tryz.underlying27 hi012 1 hsz12 A0 p.length c0 (4*(i:Int)) (4*(i:Int)+4) (by omega) (by omega) (by have:=HP.out;omega) HC.out
    have hr:=Kd.C_mid (lo:=Q) (hi:=Q4) (c:=c0) HR.out (by omega) (by have:=HP.out;omega) HC.out
    rw [show(4*(i:Int)).toNat=Q by omega,show(4*(i:Int)+4).toNat-Q=4 by omega]at hcut
    obtain⟨A4,hA4⟩:∃ A1,(if c0=Q then A0 else A0.map (·.add (Q*1)))=A1:=⟨_,rfl⟩
    obtain⟨c4',hc4⟩:∃ c1,c0-Q=c1:=⟨_,rfl⟩
    rw [hA4,hc4]at hcut
    obtain⟨q,hq⟩:∃ q,(p.take Q4).drop Q=q:=⟨_,rfl⟩
    have hr':Kd.C (Kd.int .u8) w A4 q.length q:=by rw [←hA4,←hq];exact hr
    have HQL:=Qz.k (show q.length=4 from by rw [←hq,List.length_drop,List.length_take];have:=HP.out;omega)
    have HQR:=Qz.k (show ∀ j:Nat,j<4→rd q (j:Int)=rd p ((Q+j:Nat):Int)from fun j hj=>by
     rw [←hq,rd_drop _ Q (j:Int) (by omega),rd_take _ Q4 _ (by omega) (by omega)]
     congr 1
     omega)
    have HRW:=Qz.k hr'
    have HRQ:=Qz.k (Kd.acz hr' HB.out)
    obtain⟨ad,e4,hx0⟩:=Kd.asz HRQ.out ((0:Nat):Int) (by omega) (by have:=HQL.out;omega)
    subst e4
    obtain⟨a,ha⟩:∃ a:Int,rd (sTo p i) (i:Int)=a:=⟨_,rfl⟩
    have HNX:=Qz.k (show(sTo p i).set i (wByte p Q a 4)=sTo p (i+1)from by rw [sTo,if_pos h16,←hQ,ha])
    have HST:=Qz.k (show(sTo p i).set i a=sTo p i from by rw [←ha];exact set_self _ _ (by have:=HLN.out;omega))
    clear hr hr' hx0 hA4 hc4 hq hQ hQ4 h16 ha hi012 hsz12
    generalize sTo p i=S at *
    go_wp2
    go_loopg [22] 4 (fun kq v22 W'=>∃ (j:Nat) (b:Int),v22=.int .i64 (j:Int)∧kq=4-j∧j≤4∧Qz (b=wByte p Q a j)∧Qz (Arr W' g3 246 .u32 (S.set i b))∧Qz (Arr W' g2 246 .u32 (List.replicate 64 0))∧Qz (Below w.heap.size w W'))
    case atStart=>exact⟨0,a,rfl,rfl,by omega,⟨rfl⟩,⟨by rw [HST.out];exact HA.out⟩,HZ,HB⟩
    case round=>
     clear HA HZ HB HRQ
     obtain⟨j,b,rfl,rfl,hj,HBJ,HA,HZ,HB⟩:=hrel
     by_cases hlt2:j<4
     ·have c7:decide ((j:Int)<4)=true:=decide_eq_true (by omega)
      have c8:decide (j<4)=true:=decide_eq_true hlt2
      have HW2:=Qz.k (show wrap64 ((j:Int)+1)=((j+1:Nat):Int)from by rw [agq (by omega) (by omega)];omega)
      obtain⟨ad1,e1,hx⟩:=Kd.asz (Kd.acz HRW.out HB.out) (j:Int) (by omega) (by have:=HQL.out;omega)
      injection e1 with e1
      subst e1
      rw [Int.toNat_natCast,HQR.out j hlt2]at hx
      have hcell:wr.cell? ⟨g3,i,none⟩=some (.int .u32 b):=by
       rw [HA.out.cell (i:=i) (by rw [List.length_set];have:=HLN.out;omega),rd_set _ _ _ (by have:=HLN.out;omega)]
      have hfr:=HA.out.froz i
      obtain⟨x,hxx⟩:∃ x,rd p ((Q+j:Nat):Int)=x:=⟨_,rfl⟩
      rw [hxx]at hx
      have HNB:=Qz.k (show w8 b x=wByte p Q a (j+1)from by rw [HBJ.out,←hxx];rfl)
      clear hxx
      go_wp2
      go_roundg (4-(j+1))
      case measure=>exact(by omega)
      case rel=>exact⟨j+1,w8 b x,rfl,rfl,hlt2,HNB,⟨by have:=HA.out.put i (w8 b x);rw [List.set_set]at this;exact this⟩,⟨HZ.out.far (by show g2≠g3;have:=GE3.out;omega) _⟩,⟨adq HB.out (by have:=GE2.out;have:=GE3.out;omega)⟩⟩
     ·have c7:decide ((j:Int)<4)=false:=decide_eq_false (by omega)
      have c8:decide (j<4)=false:=decide_eq_false hlt2
      have HFIN:=Qz.k (show S.set i b=sTo p (i+1)from by rw [←HNX.out,HBJ.out,show j=4 by omega])
      go_wp2
      go_roundg (64-(i+1))
      case measure=>exact(by omega)
      case rel=>
       (try rw [HW.out])
       exact⟨i+1,rfl,rfl,hlt,⟨by rw [←HFIN.out];exact HA.out⟩,HZ,HB⟩
   ·have c5:decide ((i:Int)<16)=false:=decide_eq_false (by omega)
    have c6:decide (i<16)=false:=decide_eq_false h16
    obtain⟨i2,hi2⟩:∃ i2,i=i2+2:=⟨i-2,by omega⟩
    obtain⟨i7,hi7⟩:∃ i7,i=i7+7:=⟨i-7,by omega⟩
    obtain⟨i15,hi15⟩:∃ i15,i=i15+15:=⟨i-15,by omega⟩
    obtain⟨i16,hi16⟩:∃ i16,i=i16+16:=⟨i-16,by omega⟩
    have hw2:wrap64 ((i:Int)-2)=(i2:Int):=by rw [agq (by omega) (by omega)];omega
    have hw7:wrap64 ((i:Int)-7)=(i7:Int):=by rw [agq (by omega) (by omega)];omega
    have hw15:wrap64 ((i:Int)-15)=(i15:Int):=by rw [agq (by omega) (by omega)];omega
    have hw16:wrap64 ((i:Int)-16)=(i16:Int):=by rw [agq (by omega) (by omega)];omega
    have hx2:wr.cell? ⟨g3,i2,none⟩=some (.int .u32 (rd (sTo p i) (i2:Int))):=HA.out.cell (by have:=HLN.out;omega)
    have hx15:wr.cell? ⟨g3,i15,none⟩=some (.int .u32 (rd (sTo p i) (i15:Int))):=HA.out.cell (by have:=HLN.out;omega)
    have l2:decide ((i2:Int)<64)=true:=decide_eq_true (by omega)
    have l15:decide ((i15:Int)<64)=true:=decide_eq_true (by omega)
    have l7:decide ((i7:Int)<64)=true:=decide_eq_true (by omega)
    have l16:decide ((i16:Int)<64)=true:=decide_eq_true (by omega)
    have n2:(i2:Int)<64:=by omega
    have n7:(i7:Int)<64:=by omega
    have n15:(i15:Int)<64:=by omega
    have n16:(i16:Int)<64:=by omega
    have n0:(i:Int)<64:=by omega
    have m2:i2<64:=by omega
    have m7:i7<64:=by omega
    have m15:i15<64:=by omega
    have m16:i16<64:=by omega
    have hfr:=HA.out.froz i
    have HII:=Qz.k (And.intro hi2 (And.intro hi7 (And.intro hi15 hi16)))
    clear hi2 hi7 hi15 hi16
    obtain⟨x,hx⟩:∃ x,rd (sTo p i) (i15:Int)=x:=⟨_,rfl⟩
    obtain⟨y,hy⟩:∃ y,rd (sTo p i) (i2:Int)=y:=⟨_,rfl⟩
    rw [hx]at hx15
    rw [hy]at hx2
    have HXY:=Qz.k (And.intro hx hy)
    clear hx hy
    go_upto_region 11 with(fail)
    refine axq (n:=10) (S:=fun w'=>w'.cell? ⟨g3,i2,none⟩=some (.int .u32 y)∧w'.cell? ⟨g3,i15,none⟩=some (.int .u32 x)) (ds:=[]) (bl 10 0) (by kernel_rfl) rfl rfl ⟨hx2,hx15⟩ (fun hHeld=>?_)
    refine pu_ 0 36 ?_ ?_ (bl 10 1) rfl rfl (by kernel_rfl) ?_ ?_ ?_
    rotate_left 2
    ·intro w';go_simp;with_reducible rfl
    ·simp only [Act.put,putA,putZ,putS,abq,abk];rfl
    refine pu_ 1 37 ?_ ?_ (bl 10 3) rfl rfl (by kernel_rfl) ?_ ?_ ?_
    rotate_left 2
    ·intro w';go_simp;with_reducible rfl
    ·simp only [Act.put,putA,putZ,putS,abq,abk];rfl
    refine pu_ 2 38 ?_ ?_ (bl 10 7) rfl rfl (by kernel_rfl) ?_ ?_ ?_
    rotate_left 2
    ·intro w';go_simp;with_reducible rfl
    ·simp only [Act.put,putA,putZ,putS,abq,abk];rfl
    refine pu_ 4 40 ?_ ?_ (bl 10 23) rfl rfl (by kernel_rfl) ?_ ?_ ?_
    rotate_left 2
    ·intro w';go_simp;with_reducible rfl
    ·simp only [Act.put,putA,putZ,putS,abq,abk];rfl
    refine pu_ 5 41 ?_ ?_ (bl 10 55) rfl rfl (by kernel_rfl) ?_ ?_ ?_
    rotate_left 2
    ·intro w';go_simp;with_reducible rfl
    ·simp only [Act.put,putA,putZ,putS,abq,abk];rfl
    refine pu_ 6 42 ?_ ?_ (bl 10 119) rfl rfl (by kernel_rfl) ?_ ?_ ?_
    rotate_left 2
    ·intro w';go_simp;with_reducible rfl
    ·simp only [Act.put,putA,putZ,putS,abq,abk];rfl
    refine tk_ 3 39 ?_ ?_ (bl 10 127) rfl rfl (by kernel_rfl) hHeld ?_ ?_ ?_
    rotate_left 2
    ·rintro w' ⟨s0,s1⟩;go_simp;with_reducible rfl
    ·simp only [Act.put,putA,putZ,putS,abq,abk];rfl
    refine pu_ 8 7 ?_ ?_ (bl 10 383) rfl rfl (by kernel_rfl) ?_ ?_ ?_
    rotate_left 2
    ·intro w';go_simp;with_reducible rfl
    ·simp only [Act.put,putA,putZ,putS,abq,abk];rfl
    refine tk_ 7 43 ?_ ?_ (bl 10 511) rfl rfl (by kernel_rfl) hHeld ?_ ?_ ?_
    rotate_left 2
    ·rintro w' ⟨s0,s1⟩;go_simp;with_reducible rfl
    ·simp only [Act.put,putA,putZ,putS,abq,abk];rfl
    refine pu_ 9 8 ?_ ?_ (bl 10 1023) rfl rfl (by kernel_rfl) ?_ ?_ ?_
    rotate_left 2
    ·intro w';go_simp;with_reducible rfl
    ·simp only [Act.put,putA,putZ,putS,abq,abk];rfl
    refine aPz (by kernel_rfl) ?_
    have hxa:wr.drew.cell? ⟨g3,i16,none⟩=some (.int .u32 (rd (sTo p i) (i16:Int))):=HA.out.drew.cell (by have:=HLN.out;omega)
    have hxb:wr.drew.cell? ⟨g3,i7,none⟩=some (.int .u32 (rd (sTo p i) (i7:Int))):=HA.out.drew.cell (by have:=HLN.out;omega)
    have hxc:wr.drew.cell? ⟨g3,i,none⟩=some (.int .u32 (rd (sTo p i) (i:Int))):=HA.out.drew.cell (by have:=HLN.out;omega)
    have hxd:wr.cell? ⟨g3,i,none⟩=some (.int .u32 (rd (sTo p i) (i:Int))):=HA.out.cell (by have:=HLN.out;omega)
    obtain⟨a,ha⟩:∃ a,rd (sTo p i) (i16:Int)=a:=⟨_,rfl⟩
    obtain⟨b,hb⟩:∃ b,rd (sTo p i) (i7:Int)=b:=⟨_,rfl⟩
    obtain⟨c,hc⟩:∃ c,rd (sTo p i) (i:Int)=c:=⟨_,rfl⟩
    rw [ha]at hxa
    rw [hb]at hxb
    rw [hc]at hxc
    rw [hc]at hxd
    have HMX:=Qz.k (show sTo p (i+1)=(sTo p i).set i (IntKind.u32.wrap (IntKind.u32.wrap (IntKind.u32.wrap (a+Go.bits .xor .u32 (Go.bits .xor .u32 (rotr x 7) (rotr x 18)) (x/8))+b)+Go.bits .xor .u32 (Go.bits .xor .u32 (rotr y 17) (rotr y 19)) (y/1024)))from by
     rw [sTo,if_neg h16,wMix,show i-16=i16 by have:=HII.out;omega,show i-15=i15 by have:=HII.out;omega,show i-7=i7 by have:=HII.out;omega,show i-2=i2 by have:=HII.out;omega,ha,hb,HXY.out.1,HXY.out.2])
    have HX7:=Qz.k (a1z x (n:=7) (by decide +kernel) (by decide +kernel))
    have HX18:=Qz.k (a1z x (n:=18) (by decide +kernel) (by decide +kernel))
    have HY17:=Qz.k (a1z y (n:=17) (by decide +kernel) (by decide +kernel))
    have HY19:=Qz.k (a1z y (n:=19) (by decide +kernel) (by decide +kernel))
    generalize rotr x 7=x7 at *
    generalize rotr x 18=x18 at *
    generalize rotr y 17=y17 at *
    generalize rotr y 19=y19 at *
    clear ha hb hc hHeld
    go_upto_region 12 with(fail)
    refine axq (n:=30) (S:=fun w'=>w'.cell? ⟨g3,i16,none⟩=some (.int .u32 a)∧w'.cell? ⟨g3,i7,none⟩=some (.int .u32 b)∧w'.cell? ⟨g3,i,none⟩=some (.int .u32 c)∧w'.frozen? ⟨g3,i,none⟩=false) (ds:=[29]) (bl 30 0) (by kernel_rfl) rfl rfl ⟨hxa,hxb,hxc,hfr⟩ (fun hHeld=>?_)
    refine pu_ 0 44 ?_ ?_ (bl 30 1) rfl rfl (by kernel_rfl) ?_ ?_ ?_
    rotate_left 2
    ·intro w';go_simp;with_reducible rfl
    ·simp only [Act.put,putA,putZ,putS,abq,abk];rfl
    refine pu_ 1 45 ?_ ?_ (bl 30 3) rfl rfl (by kernel_rfl) ?_ ?_ ?_
    rotate_left 2
    ·intro w';go_simp;with_reducible rfl
    ·simp only [Act.put,putA,putZ,putS,abq,abk];rfl
    refine pu_ 2 46 ?_ ?_ (bl 30 7) rfl rfl (by kernel_rfl) ?_ ?_ ?_
    rotate_left 2
    ·intro w';go_simp;with_reducible rfl
    ·simp only [Act.put,putA,putZ,putS,abq,abk];rfl
    refine pu_ 3 47 ?_ ?_ (bl 30 15) rfl rfl (by kernel_rfl) ?_ ?_ ?_
    rotate_left 2
    ·intro w';go_simp;with_reducible rfl
    ·simp only [Act.put,putA,putZ,putS,abq,abk];rfl
    refine pu_ 5 49 ?_ ?_ (bl 30 47) rfl rfl (by kernel_rfl) ?_ ?_ ?_
    rotate_left 2
    ·intro w';go_simp;with_reducible rfl
    ·simp only [Act.put,putA,putZ,putS,abq,abk];rfl
    refine pu_ 7 51 ?_ ?_ (bl 30 175) rfl rfl (by kernel_rfl) ?_ ?_ ?_
    rotate_left 2
    ·intro w';go_simp;with_reducible rfl
    ·simp only [Act.put,putA,putZ,putS,abq,abk];rfl
    refine pu_ 10 54 ?_ ?_ (bl 30 1199) rfl rfl (by kernel_rfl) ?_ ?_ ?_
    rotate_left 2
    ·intro w';go_simp;with_reducible rfl
    ·simp only [Act.put,putA,putZ,putS,abq,abk];rfl
    refine pu_ 11 55 ?_ ?_ (bl 30 3247) rfl rfl (by kernel_rfl) ?_ ?_ ?_
    rotate_left 2
    ·intro w';go_simp;with_reducible rfl
    ·simp only [Act.put,putA,putZ,putS,abq,abk];rfl
    refine pu_ 14 58 ?_ ?_ (bl 30 19631) rfl rfl (by kernel_rfl) ?_ ?_ ?_
    rotate_left 2
    ·intro w';go_simp;with_reducible rfl
    ·simp only [Act.put,putA,putZ,putS,abq,abk];rfl
    refine pu_ 15 59 ?_ ?_ (bl 30 52399) rfl rfl (by kernel_rfl) ?_ ?_ ?_
    rotate_left 2
    ·intro w';go_simp;with_reducible rfl
    ·simp only [Act.put,putA,putZ,putS,abq,abk];rfl
    refine pu_ 16 60 ?_ ?_ (bl 30 117935) rfl rfl (by kernel_rfl) ?_ ?_ ?_
    rotate_left 2
    ·intro w';go_simp;with_reducible rfl
    ·simp only [Act.put,putA,putZ,putS,abq,abk];rfl
    refine pu_ 19 63 ?_ ?_ (bl 30 642223) rfl rfl (by kernel_rfl) ?_ ?_ ?_
    rotate_left 2
    ·intro w';go_simp;with_reducible rfl
    ·simp only [Act.put,putA,putZ,putS,abq,abk];rfl
    refine pu_ 21 65 ?_ ?_ (bl 30 2739375) rfl rfl (by kernel_rfl) ?_ ?_ ?_
    rotate_left 2
    ·intro w';go_simp;with_reducible rfl
    ·simp only [Act.put,putA,putZ,putS,abq,abk];rfl
    refine pu_ 24 68 ?_ ?_ (bl 30 19516591) rfl rfl (by kernel_rfl) ?_ ?_ ?_
    rotate_left 2
    ·intro w';go_simp;with_reducible rfl
    ·simp only [Act.put,putA,putZ,putS,abq,abk];rfl
    refine pu_ 25 69 ?_ ?_ (bl 30 53071023) rfl rfl (by kernel_rfl) ?_ ?_ ?_
    rotate_left 2
    ·intro w';go_simp;with_reducible rfl
    ·simp only [Act.put,putA,putZ,putS,abq,abk];rfl
    refine tk_ 4 48 ?_ ?_ (bl 30 53071039) rfl rfl (by kernel_rfl) hHeld ?_ ?_ ?_
    rotate_left 2
    ·rintro w' ⟨s0,s1,s2,s3⟩;go_simp;with_reducible rfl
    ·simp only [Act.put,putA,putZ,putS,abq,abk];rfl
    refine tk_ 17 61 ?_ ?_ (bl 30 53202111) rfl rfl (by kernel_rfl) hHeld ?_ ?_ ?_
    rotate_left 2
    ·rintro w' ⟨s0,s1,s2,s3⟩;go_simp;with_reducible rfl
    ·simp only [Act.put,putA,putZ,putS,abq,abk];rfl
    refine one_ (i:=6) (N:=some 50) (bl 30 53202175) rfl rfl (by kernel_rfl) (by decide) (fun K hK=>?_)
    refine aFq Tryz.func248 (by kernel_rfl) rfl #[.int .u32 x,.int .i64 7] (by rfl) rfl rfl (by simp only [List.map_toArray,List.map_cons,List.map_nil];first|done|rfl) ?_
    with_reducible refine(sha_rot.calls _ _ _ _ HX7.out).mono ?_
    rintro e w8 ⟨rfl,⟨n6,rfl⟩⟩
    refine⟨_,rfl,?_⟩
    refine hK.out _ _ ⟨hHeld.1,hHeld.2.1,hHeld.2.2.1,hHeld.2.2.2⟩ (fun hHeld=>?_)
    clear hK K
    refine aHz (a':=?_) ?_ ?_
    rotate_left
    ·show Act.put _ (some 50) _=_
     simp only [Act.put,putA,putZ,putS,abq,abk]
     rfl
    refine one_ (i:=8) (N:=some 52) (bl 30 53202431) rfl rfl (by kernel_rfl) (by decide) (fun K hK=>?_)
    refine aFq Tryz.func248 (by kernel_rfl) rfl #[.int .u32 x,.int .i64 18] (by rfl) rfl rfl (by simp only [List.map_toArray,List.map_cons,List.map_nil];first|done|rfl) ?_
    with_reducible refine(sha_rot.calls _ _ _ _ HX18.out).mono ?_
    rintro e w8 ⟨rfl,⟨n8,rfl⟩⟩
    refine⟨_,rfl,?_⟩
    refine hK.out _ _ ⟨hHeld.1,hHeld.2.1,hHeld.2.2.1,hHeld.2.2.2⟩ (fun hHeld=>?_)
    clear hK K
    refine aHz (a':=?_) ?_ ?_
    rotate_left
    ·show Act.put _ (some 52) _=_
     simp only [Act.put,putA,putZ,putS,abq,abk]
     rfl
    refine pu_ 9 53 ?_ ?_ (bl 30 53202943) rfl rfl (by kernel_rfl) ?_ ?_ ?_
    rotate_left 2
    ·intro w';go_simp;with_reducible rfl
    ·simp only [Act.put,putA,putZ,putS,abq,abk];rfl
    refine pu_ 12 56 ?_ ?_ (bl 30 53207039) rfl rfl (by kernel_rfl) ?_ ?_ ?_
    rotate_left 2
    ·intro w';go_simp;with_reducible rfl
    ·simp only [Act.put,putA,putZ,putS,abq,abk];rfl
    refine pu_ 13 57 ?_ ?_ (bl 30 53215231) rfl rfl (by kernel_rfl) ?_ ?_ ?_
    rotate_left 2
    ·intro w';go_simp;with_reducible rfl
    ·simp only [Act.put,putA,putZ,putS,abq,abk];rfl
    refine pu_ 18 62 ?_ ?_ (bl 30 53477375) rfl rfl (by kernel_rfl) ?_ ?_ ?_
    rotate_left 2
    ·intro w';go_simp;with_reducible rfl
    ·simp only [Act.put,putA,putZ,putS,abq,abk];rfl
    refine one_ (i:=20) (N:=some 64) (bl 30 54525951) rfl rfl (by kernel_rfl) (by decide) (fun K hK=>?_)
    refine aFq Tryz.func248 (by kernel_rfl) rfl #[.int .u32 y,.int .i64 17] (by rfl) rfl rfl (by simp only [List.map_toArray,List.map_cons,List.map_nil];first|done|rfl) ?_
    with_reducible refine(sha_rot.calls _ _ _ _ HY17.out).mono ?_
    rintro e w8 ⟨rfl,⟨n20,rfl⟩⟩
    refine⟨_,rfl,?_⟩
    refine hK.out _ _ ⟨hHeld.1,hHeld.2.1,hHeld.2.2.1,hHeld.2.2.2⟩ (fun hHeld=>?_)
    clear hK K
    refine aHz (a':=?_) ?_ ?_
    rotate_left
    ·show Act.put _ (some 64) _=_
     simp only [Act.put,putA,putZ,putS,abq,abk]
     rfl
    refine one_ (i:=22) (N:=some 66) (bl 30 58720255) rfl rfl (by kernel_rfl) (by decide) (fun K hK=>?_)
    refine aFq Tryz.func248 (by kernel_rfl) rfl #[.int .u32 y,.int .i64 19] (by rfl) rfl rfl (by simp only [List.map_toArray,List.map_cons,List.map_nil];first|done|rfl) ?_
    with_reducible refine(sha_rot.calls _ _ _ _ HY19.out).mono ?_
    rintro e w8 ⟨rfl,⟨n22,rfl⟩⟩
    refine⟨_,rfl,?_⟩
    refine hK.out _ _ ⟨hHeld.1,hHeld.2.1,hHeld.2.2.1,hHeld.2.2.2⟩ (fun hHeld=>?_)
    clear hK K
    refine aHz (a':=?_) ?_ ?_
    rotate_left
    ·show Act.put _ (some 66) _=_
     simp only [Act.put,putA,putZ,putS,abq,abk]
     rfl
    refine pu_ 23 67 ?_ ?_ (bl 30 67108863) rfl rfl (by kernel_rfl) ?_ ?_ ?_
    rotate_left 2
    ·intro w';go_simp;with_reducible rfl
    ·simp only [Act.put,putA,putZ,putS,abq,abk];rfl
    refine pu_ 26 70 ?_ ?_ (bl 30 134217727) rfl rfl (by kernel_rfl) ?_ ?_ ?_
    rotate_left 2
    ·intro w';go_simp;with_reducible rfl
    ·simp only [Act.put,putA,putZ,putS,abq,abk];rfl
    refine pu_ 27 71 ?_ ?_ (bl 30 268435455) rfl rfl (by kernel_rfl) ?_ ?_ ?_
    rotate_left 2
    ·intro w';go_simp;with_reducible rfl
    ·simp only [Act.put,putA,putZ,putS,abq,abk];rfl
    refine pu_ 28 72 ?_ ?_ (bl 30 536870911) rfl rfl (by kernel_rfl) ?_ ?_ ?_
    rotate_left 2
    ·intro w';go_simp;with_reducible rfl
    ·simp only [Act.put,putA,putZ,putS,abq,abk];rfl
    refine bdz (i:=29) (N:=none) (bl 30 1073741823) rfl rfl (by kernel_rfl) (by decide) (fun K hK=>?_)
    refine bbk (w1:=?_) (by rfl) rfl ?_ ?_
    rotate_left
    ·go_simp
     rfl
    refine hK.out _ _ ?_
    clear hK K
    refine aPz (by kernel_rfl) ?_
    generalize IntKind.u32.wrap (IntKind.u32.wrap (IntKind.u32.wrap (a+Go.bits .xor .u32 (Go.bits .xor .u32 x7 x18) (x/8))+b)+Go.bits .xor .u32 (Go.bits .xor .u32 y17 y19) (y/1024))=V at *
    go_wp2
    go_roundg (64-(i+1))
    case measure=>exact(by omega)
    case rel=>
     (try rw [HW.out])
     exact⟨i+1,rfl,rfl,hlt,⟨by rw [HMX.out];exact(Arr.drewN HA.out _).put i V⟩,⟨(Arr.drewN HZ.out _).far (by show g2≠g3;have:=GE3.out;omega) _⟩,⟨adq (adz HB.out _) (by have:=GE2.out;have:=GE3.out;omega)⟩⟩
  ·have c3:decide ((i:Int)<64)=false:=decide_eq_false (by omega)
   have c4:decide (i<64)=false:=decide_eq_false hlt
   obtain rfl:i=64:=by omega
   have HSL:=Qz.k (show(Tryz.prog.info? 246).map (·.size)=some (sched p).length from by rw [show(sched p).length=64 from bIq p 64];kernel_rfl)
   have HA:=Qz.k (show Arr wr g3 246 .u32 (sched p)from HA.out)
   have HEQ:=Qz.k (show(List.replicate 64 (0:Int)).length=(sched p).length from by rw [show(sched p).length=64 from bIq p 64];exact HZL.out)
   go_wp2_with (first
    |(refine ayk 246 (.tmp 3) rfl rfl rfl HA.out Tryz.underlying246 HSL.out ?_)
    |(refine arq (g:=g2) (l':=sched p) 246 (.tmp 2) (.tmp 74) rfl rfl rfl rfl rfl HZ.out HSL.out HEQ.out ?_))
   have HF:=Qz.k (Arr.row HZ.out (sched p))
   refine bodyPost_ret (v := .agg (arrV .u32 (sched p))) ?_ rfl ⟨rfl,?_⟩
   ·exact Arr.result rfl _ HF.out rfl Tryz.underlying246 HSL.out
   ·exact anz HB.out GE2.out
def shaT1 (e f g h k w:Int):Int:=h+Go.bits .xor .u32 (Go.bits .xor .u32 (rotr e 6) (rotr e 11)) (rotr e 25)+Go.bits .xor .u32 (Go.bits .and .u32 e f) (Go.bits .and .u32 (Go.bits .xor .u32 IntKind.u32.max e) g)+k+w
def shaT2 (a b c:Int):Int:=Go.bits .xor .u32 (Go.bits .xor .u32 (rotr a 2) (rotr a 13)) (rotr a 22)+Go.bits .xor .u32 (Go.bits .xor .u32 (Go.bits .and .u32 a b) (Go.bits .and .u32 a c)) (Go.bits .and .u32 b c)
def shaR (w k:List Int)(s:List Int):Nat→List Int
 | 0=>s
 |i+1=>match shaR w k s i with
  | [a,b,c,d,e,f,g,h]=>[(shaT1 e f g h (rd k (i:Int)) (rd w (i:Int))+shaT2 a b c)%4294967296,a,b,c,(d+shaT1 e f g h (rd k (i:Int)) (rd w (i:Int)))%4294967296,e,f,g]
  |l=>l
def aYk (s x:List Int):Nat→List Int
 | 0=>s
 |i+1=>(aYk s x i).set i ((rd (aYk s x i) (i:Int)+rd x (i:Int))%4294967296)
theorem bxz (s x:List Int):∀ i,(aYk s x i).length=s.length
 | 0=>rfl
 |i+1=>by rw [aYk,List.length_set,bxz s x i]
theorem index8 (a b c d e f g h:Int)(j:Nat)(hj:j<8)(W:World):(Instr.index 176 (.agg #[.int .u32 a,.int .u32 b,.int .u32 c,.int .u32 d,.int .u32 e,.int .u32 f,.int .u32 g,.int .u32 h]) (.int .i64 (j:Int))).run Tryz.prog W=.ok (.int .u32 (rd [a,b,c,d,e,f,g,h] (j:Int))) W:=by
 obtain rfl|rfl|rfl|rfl|rfl|rfl|rfl|rfl:j=0∨j=1∨j=2∨j=3∨j=4∨j=5∨j=6∨j=7:=by omega
 all_goals kernel_rfl
def through (s p:List Int):List Int:=aYk s (shaR (sched p) shaK s 64) 8
theorem list8 {s:List Int}(h:s.length=8):s=[rd s 0,rd s 1,rd s 2,rd s 3,rd s 4,rd s 5,rd s 6,rd s 7]:=by
 match s,h with
 | [_,_,_,_,_,_,_,_],_=>rfl
set_option maxHeartbeats 4000000 in
theorem sha_state_through.calls (s:List Int)(hs:s.length=8)(A0:Option Addr)(c0:Nat)(p:List Int)(w:World)(hr0:Kd.C (Kd.int .u8) w A0 p.length p)(hc0:p.length≤c0)(hp:p.length=64) :
  Calls Tryz.prog 199 #[.agg (arrV .u32 s),.slice A0 p.length c0] w fun e w'=>e=.returned (.agg (arrV .u32 (through s p)))∧Below w.heap.size w w':=by
 have HR:=Qz.k hr0
 have HC:=Qz.k hc0
 have HP:=Qz.k hp
 have HS:=Qz.k hs
 obtain⟨SW,hSW⟩:∃ SW,sched p=SW:=⟨_,rfl⟩
 have HSC:=Qz.k (fun w1 h=>(sha_schedule.calls A0 c0 p w1 h hc0 hp))
 rw [hSW]at HSC
 have HSWL:=Qz.k (show SW.length=64 from by rw [←hSW];exact bIq p 64)
 have HTC:=Qz.k (fun w1=>sha_table.calls w1)
 obtain⟨KT,hKT⟩:∃ KT,shaK=KT:=⟨_,rfl⟩
 rw [hKT]at HTC
 have HKTL:=Qz.k (show KT.length=64 from by rw [←hKT];rfl)
 have HTH:=Qz.k (show through s p=aYk s (shaR SW KT s 64) 8 from by rw [←hSW,←hKT];rfl)
 obtain⟨TH,hTH⟩:∃ TH,through s p=TH:=⟨_,rfl⟩
 rw [hTH]at HTH ⊢
 have HZL:=Qz.k (show(List.replicate 64 (0:Int)).length=64 from List.length_replicate)
 have HI64:=Qz.k (show ∀ l:List Int,l.length=64→(Tryz.prog.info? 246).map (·.size)=some l.length from fun l hl=>by rw [hl];kernel_rfl)
 clear hr0 hc0 hp hs hSW hKT hTH
 go_enter Tryz.func199,Tryz.ntmps199
 go_wp2_with (first
  |((with_reducible refine ahk (N:=2) rfl ?_);refine aik ?hg (N:=2) ?hd (cs:=arrV .u32 s) (t:=177) ?hr ?_;(case hd=>rfl);(case hg=>rfl);(case hr=>first|(go_simp;done)|(go_simp;rfl));intro g2 hg w4 hbox hb;have HB4:=Qz.k hb;have HA2:=Qz.k (show Arr w4 g2 177 .u32 s from hbox);have GE2:=Qz.k ((by rw [hg];exact Nat.le_refl _):w.heap.size≤g2);clear hbox hb hg)
  |((with_reducible refine ahk (N:=4) rfl ?_);refine aik ?hg (N:=4) ?hd (cs:=arrV .u32 (List.replicate 8 0)) (t:=177) ?hr ?_;(case hd=>rfl);(case hg=>rfl);(case hr=>first|(go_simp;done)|(go_simp;rfl));intro g4 hg w5 hbox hb;have HB5:=Qz.k (aaz HB4.out hb);have HA4:=Qz.k (show Arr w5 g4 177 .u32 (List.replicate 8 0)from hbox);have HA25:=Qz.k (Arr.below HA2.out hb);have GE4:=Qz.k ((by rw [hg];exact HA2.out.lt):g2<g4);clear HA2 HB4 hbox hb hg))
 refine(HSC.out _ (Kd.acz HR.out HB5.out)).mono ?_
 rintro e w6 ⟨rfl,hb⟩
 have HA26:=Qz.k (Arr.below HA25.out hb)
 have HA46:=Qz.k (Arr.below HA4.out hb)
 have HB6:=Qz.k (aaz HB5.out hb)
 clear hb HA25 HA4 HB5 HSC
 go_wp2_with (fail)
 refine(HTC.out _).mono ?_
 rintro e w7 ⟨rfl,hb⟩
 have HA27:=Qz.k (Arr.below HA26.out hb)
 have HA47:=Qz.k (Arr.below HA46.out hb)
 have HB7:=Qz.k (aaz HB6.out hb)
 clear hb HA26 HA46 HB6 HTC
 go_upto_region 2 with(first
  |((with_reducible refine ahk (N:=5) rfl ?_);refine aik ?hg (N:=5) ?hd (cs:=arrV .u32 (List.replicate 64 0)) (t:=246) ?hr ?_;(case hd=>rfl);(case hg=>rfl);(case hr=>first|(go_simp;done)|(go_simp;rfl));intro g5 hg w8 hbox hb;have HB8:=Qz.k (aaz HB7.out hb);have HA5:=Qz.k (show Arr w8 g5 246 .u32 (List.replicate 64 0)from hbox);have HA28:=Qz.k (Arr.below HA27.out hb);have HA48:=Qz.k (Arr.below HA47.out hb);have GE5:=Qz.k ((by rw [hg];exact HA47.out.lt):g4<g5);clear HA27 HA47 HB7 hbox hb hg)
  |((with_reducible refine ahk (N:=6) rfl ?_);refine aik ?hg (N:=6) ?hd (cs:=arrV .u32 (List.replicate 64 0)) (t:=246) ?hr ?_;(case hd=>rfl);(case hg=>rfl);(case hr=>first|(go_simp;done)|(go_simp;rfl));intro g6 hg w9 hbox hb;have HB9:=Qz.k (aaz HB8.out hb);have HA6:=Qz.k (show Arr w9 g6 246 .u32 (List.replicate 64 0)from hbox);have HA29:=Qz.k (Arr.below HA28.out hb);have HA49:=Qz.k (Arr.below HA48.out hb);have HA59:=Qz.k (Arr.below HA5.out hb);have GE6:=Qz.k ((by rw [hg];exact HA5.out.lt):g5<g6);clear HA28 HA48 HA5 HB8 hbox hb hg)
  |(refine arq (g:=g5) (l':=SW) 246 (.tmp 5) (.tmp 21) rfl rfl rfl rfl rfl HA59.out (HI64.out _ HSWL.out) (HZL.out.trans HSWL.out.symm) ?_;have HA5a:=Qz.k (Arr.row HA59.out SW);have HA6a:=Qz.k (Arr.aTz HA6.out (show g6≠g5 by have:=GE6.out;omega) (arrV .u32 SW));have HA2a:=Qz.k (Arr.aTz HA29.out (show g2≠g5 by have:=GE4.out;have:=GE5.out;omega) (arrV .u32 SW));have HA4a:=Qz.k (Arr.aTz HA49.out (show g4≠g5 by have:=GE5.out;omega) (arrV .u32 SW));have HBa:=Qz.k (anz (g:=g5) (c:=arrV .u32 SW) HB9.out (by have:=GE2.out;have:=GE4.out;have:=GE5.out;omega));clear HA59 HA29 HA49 HA6 HB9)
  |(refine arq (g:=g6) (l':=KT) 246 (.tmp 6) (.tmp 22) rfl rfl rfl rfl rfl HA6a.out (HI64.out _ HKTL.out) (HZL.out.trans HKTL.out.symm) ?_;have HA6b:=Qz.k (Arr.row HA6a.out KT);have HA5b:=Qz.k (Arr.aTz HA5a.out (show g5≠g6 by have:=GE6.out;omega) (arrV .u32 KT));have HA2b:=Qz.k (Arr.aTz HA2a.out (show g2≠g6 by have:=GE4.out;have:=GE5.out;have:=GE6.out;omega) (arrV .u32 KT));have HA4b:=Qz.k (Arr.aTz HA4a.out (show g4≠g6 by have:=GE5.out;have:=GE6.out;omega) (arrV .u32 KT));have HBb:=Qz.k (anz (g:=g6) (c:=arrV .u32 KT) HBa.out (by have:=GE2.out;have:=GE4.out;have:=GE5.out;have:=GE6.out;omega));clear HA6a HA5a HA2a HA4a HBa))
 generalize (w9.setRow g5 (arrV .u32 SW)).setRow g6 (arrV .u32 KT)=wa at *
 have hx0:wa.cell? ⟨g2,0,none⟩=some (.int .u32 (rd s 0)):=HA2b.out.cell (i:=0) (by have:=HS.out;omega)
 have hx1:wa.cell? ⟨g2,1,none⟩=some (.int .u32 (rd s 1)):=HA2b.out.cell (i:=1) (by have:=HS.out;omega)
 have hx2:wa.cell? ⟨g2,2,none⟩=some (.int .u32 (rd s 2)):=HA2b.out.cell (i:=2) (by have:=HS.out;omega)
 have hx3:wa.cell? ⟨g2,3,none⟩=some (.int .u32 (rd s 3)):=HA2b.out.cell (i:=3) (by have:=HS.out;omega)
 have hx4:wa.cell? ⟨g2,4,none⟩=some (.int .u32 (rd s 4)):=HA2b.out.cell (i:=4) (by have:=HS.out;omega)
 have hx5:wa.cell? ⟨g2,5,none⟩=some (.int .u32 (rd s 5)):=HA2b.out.cell (i:=5) (by have:=HS.out;omega)
 have hx6:wa.cell? ⟨g2,6,none⟩=some (.int .u32 (rd s 6)):=HA2b.out.cell (i:=6) (by have:=HS.out;omega)
 have hx7:wa.cell? ⟨g2,7,none⟩=some (.int .u32 (rd s 7)):=HA2b.out.cell (i:=7) (by have:=HS.out;omega)
 have HL8:=Qz.k (list8 HS.out)
 generalize rd s 0=a at *
 generalize rd s 1=b at *
 generalize rd s 2=c at *
 generalize rd s 3=d at *
 generalize rd s 4=e at *
 generalize rd s 5=f at *
 generalize rd s 6=g at *
 generalize rd s 7=h at *
 refine axq (n:=24) (S:=fun w'=>w'.cell? ⟨g2,0,none⟩=some (.int .u32 a)∧w'.cell? ⟨g2,1,none⟩=some (.int .u32 b)∧w'.cell? ⟨g2,2,none⟩=some (.int .u32 c)∧w'.cell? ⟨g2,3,none⟩=some (.int .u32 d)∧w'.cell? ⟨g2,4,none⟩=some (.int .u32 e)∧w'.cell? ⟨g2,5,none⟩=some (.int .u32 f)∧w'.cell? ⟨g2,6,none⟩=some (.int .u32 g)∧w'.cell? ⟨g2,7,none⟩=some (.int .u32 h)) (ds:=[]) (bl 24 0) (by kernel_rfl) rfl rfl ⟨hx0,hx1,hx2,hx3,hx4,hx5,hx6,hx7⟩ (fun hHeld=>?_)
 refine pu_ 0 23 ?_ ?_ (bl 24 1) rfl rfl (by kernel_rfl) ?_ ?_ ?_
 rotate_left 2
 ·intro w';go_simp;with_reducible rfl
 ·simp only [Act.put,putA,putZ,putS,abq,abk];rfl
 refine pu_ 2 25 ?_ ?_ (bl 24 5) rfl rfl (by kernel_rfl) ?_ ?_ ?_
 rotate_left 2
 ·intro w';go_simp;with_reducible rfl
 ·simp only [Act.put,putA,putZ,putS,abq,abk];rfl
 refine pu_ 4 27 ?_ ?_ (bl 24 21) rfl rfl (by kernel_rfl) ?_ ?_ ?_
 rotate_left 2
 ·intro w';go_simp;with_reducible rfl
 ·simp only [Act.put,putA,putZ,putS,abq,abk];rfl
 refine pu_ 6 29 ?_ ?_ (bl 24 85) rfl rfl (by kernel_rfl) ?_ ?_ ?_
 rotate_left 2
 ·intro w';go_simp;with_reducible rfl
 ·simp only [Act.put,putA,putZ,putS,abq,abk];rfl
 refine pu_ 8 31 ?_ ?_ (bl 24 341) rfl rfl (by kernel_rfl) ?_ ?_ ?_
 rotate_left 2
 ·intro w';go_simp;with_reducible rfl
 ·simp only [Act.put,putA,putZ,putS,abq,abk];rfl
 refine pu_ 10 33 ?_ ?_ (bl 24 1365) rfl rfl (by kernel_rfl) ?_ ?_ ?_
 rotate_left 2
 ·intro w';go_simp;with_reducible rfl
 ·simp only [Act.put,putA,putZ,putS,abq,abk];rfl
 refine pu_ 12 35 ?_ ?_ (bl 24 5461) rfl rfl (by kernel_rfl) ?_ ?_ ?_
 rotate_left 2
 ·intro w';go_simp;with_reducible rfl
 ·simp only [Act.put,putA,putZ,putS,abq,abk];rfl
 refine pu_ 14 37 ?_ ?_ (bl 24 21845) rfl rfl (by kernel_rfl) ?_ ?_ ?_
 rotate_left 2
 ·intro w';go_simp;with_reducible rfl
 ·simp only [Act.put,putA,putZ,putS,abq,abk];rfl
 refine tk_ 1 24 ?_ ?_ (bl 24 21847) rfl rfl (by kernel_rfl) hHeld ?_ ?_ ?_
 rotate_left 2
 ·rintro w' ⟨s0,s1,s2,s3,s4,s5,s6,s7⟩;go_simp;with_reducible rfl
 ·simp only [Act.put,putA,putZ,putS,abq,abk];rfl
 refine pu_ 16 7 ?_ ?_ (bl 24 87383) rfl rfl (by kernel_rfl) ?_ ?_ ?_
 rotate_left 2
 ·intro w';go_simp;with_reducible rfl
 ·simp only [Act.put,putA,putZ,putS,abq,abk];rfl
 refine tk_ 3 26 ?_ ?_ (bl 24 87391) rfl rfl (by kernel_rfl) hHeld ?_ ?_ ?_
 rotate_left 2
 ·rintro w' ⟨s0,s1,s2,s3,s4,s5,s6,s7⟩;go_simp;with_reducible rfl
 ·simp only [Act.put,putA,putZ,putS,abq,abk];rfl
 refine pu_ 17 8 ?_ ?_ (bl 24 218463) rfl rfl (by kernel_rfl) ?_ ?_ ?_
 rotate_left 2
 ·intro w';go_simp;with_reducible rfl
 ·simp only [Act.put,putA,putZ,putS,abq,abk];rfl
 refine tk_ 5 28 ?_ ?_ (bl 24 218495) rfl rfl (by kernel_rfl) hHeld ?_ ?_ ?_
 rotate_left 2
 ·rintro w' ⟨s0,s1,s2,s3,s4,s5,s6,s7⟩;go_simp;with_reducible rfl
 ·simp only [Act.put,putA,putZ,putS,abq,abk];rfl
 refine pu_ 18 9 ?_ ?_ (bl 24 480639) rfl rfl (by kernel_rfl) ?_ ?_ ?_
 rotate_left 2
 ·intro w';go_simp;with_reducible rfl
 ·simp only [Act.put,putA,putZ,putS,abq,abk];rfl
 refine tk_ 7 30 ?_ ?_ (bl 24 480767) rfl rfl (by kernel_rfl) hHeld ?_ ?_ ?_
 rotate_left 2
 ·rintro w' ⟨s0,s1,s2,s3,s4,s5,s6,s7⟩;go_simp;with_reducible rfl
 ·simp only [Act.put,putA,putZ,putS,abq,abk];rfl
 refine pu_ 19 10 ?_ ?_ (bl 24 1005055) rfl rfl (by kernel_rfl) ?_ ?_ ?_
 rotate_left 2
 ·intro w';go_simp;with_reducible rfl
 ·simp only [Act.put,putA,putZ,putS,abq,abk];rfl
 refine tk_ 9 32 ?_ ?_ (bl 24 1005567) rfl rfl (by kernel_rfl) hHeld ?_ ?_ ?_
 rotate_left 2
 ·rintro w' ⟨s0,s1,s2,s3,s4,s5,s6,s7⟩;go_simp;with_reducible rfl
 ·simp only [Act.put,putA,putZ,putS,abq,abk];rfl
 refine pu_ 20 11 ?_ ?_ (bl 24 2054143) rfl rfl (by kernel_rfl) ?_ ?_ ?_
 rotate_left 2
 ·intro w';go_simp;with_reducible rfl
 ·simp only [Act.put,putA,putZ,putS,abq,abk];rfl
 refine tk_ 11 34 ?_ ?_ (bl 24 2056191) rfl rfl (by kernel_rfl) hHeld ?_ ?_ ?_
 rotate_left 2
 ·rintro w' ⟨s0,s1,s2,s3,s4,s5,s6,s7⟩;go_simp;with_reducible rfl
 ·simp only [Act.put,putA,putZ,putS,abq,abk];rfl
 refine pu_ 21 12 ?_ ?_ (bl 24 4153343) rfl rfl (by kernel_rfl) ?_ ?_ ?_
 rotate_left 2
 ·intro w';go_simp;with_reducible rfl
 ·simp only [Act.put,putA,putZ,putS,abq,abk];rfl
 refine tk_ 13 36 ?_ ?_ (bl 24 4161535) rfl rfl (by kernel_rfl) hHeld ?_ ?_ ?_
 rotate_left 2
 ·rintro w' ⟨s0,s1,s2,s3,s4,s5,s6,s7⟩;go_simp;with_reducible rfl
 ·simp only [Act.put,putA,putZ,putS,abq,abk];rfl
 refine pu_ 22 13 ?_ ?_ (bl 24 8355839) rfl rfl (by kernel_rfl) ?_ ?_ ?_
 rotate_left 2
 ·intro w';go_simp;with_reducible rfl
 ·simp only [Act.put,putA,putZ,putS,abq,abk];rfl
 refine tk_ 15 38 ?_ ?_ (bl 24 8388607) rfl rfl (by kernel_rfl) hHeld ?_ ?_ ?_
 rotate_left 2
 ·rintro w' ⟨s0,s1,s2,s3,s4,s5,s6,s7⟩;go_simp;with_reducible rfl
 ·simp only [Act.put,putA,putZ,putS,abq,abk];rfl
 refine pu_ 23 14 ?_ ?_ (bl 24 16777215) rfl rfl (by kernel_rfl) ?_ ?_ ?_
 rotate_left 2
 ·intro w';go_simp;with_reducible rfl
 ·simp only [Act.put,putA,putZ,putS,abq,abk];rfl
 refine aPz (by kernel_rfl) ?_
 clear hHeld hx0 hx1 hx2 hx3 hx4 hx5 hx6 hx7
 have HA2:=Qz.k (Arr.drew HA2b.out)
 have HA4:=Qz.k (Arr.drew HA4b.out)
 have HA5:=Qz.k (Arr.drew HA5b.out)
 have HA6:=Qz.k (Arr.drew HA6b.out)
 have HB:=Qz.k (aez HBb.out)
 clear HA2b HA4b HA5b HA6b HBb
 generalize wa.drew=wb at *
 go_wp2
 go_loopg [7,8,9,10,11,12,13,14,39] 64 (fun kq v7 v8 v9 v10 v11 v12 v13 v14 v39 W'=>∃ (i:Nat) (a b c d e f g h:Int),v7=.int .u32 a∧v8=.int .u32 b∧v9=.int .u32 c∧v10=.int .u32 d∧v11=.int .u32 e∧v12=.int .u32 f∧v13=.int .u32 g∧v14=.int .u32 h∧v39=.int .i64 (i:Int)∧kq=64-i∧i≤64∧Qz (shaR SW KT s i=[a,b,c,d,e,f,g,h])∧Qz (Arr W' g2 177 .u32 s)∧Qz (Arr W' g4 177 .u32 (List.replicate 8 0))∧Qz (Arr W' g5 246 .u32 SW)∧Qz (Arr W' g6 246 .u32 KT)∧Qz (Below w.heap.size w W'))
 case atStart=>exact⟨0,a,b,c,d,e,f,g,h,rfl,rfl,rfl,rfl,rfl,rfl,rfl,rfl,rfl,rfl,by omega,HL8,HA2,HA4,HA5,HA6,HB⟩
 case round=>
  clear HA2 HA4 HA5 HA6 HB HL8
  obtain⟨i,a,b,c,d,e,f,g,h,rfl,rfl,rfl,rfl,rfl,rfl,rfl,rfl,rfl,rfl,hi,HSR,HA2,HA4,HA5,HA6,HB⟩:=hrel
  by_cases hlt:i<64
  ·have c3:decide ((i:Int)<64)=true:=decide_eq_true (by omega)
   have c4:decide (i<64)=true:=decide_eq_true hlt
   have n0:(i:Int)<64:=by omega
   have HW:=Qz.k (show wrap64 ((i:Int)+1)=((i+1:Nat):Int)from by rw [agq (by omega) (by omega)];omega)
   have hkt:wr.cell? ⟨g6,i,none⟩=some (.int .u32 (rd KT (i:Int))):=HA6.out.cell (by have:=HKTL.out;omega)
   have hwt:wr.cell? ⟨g5,i,none⟩=some (.int .u32 (rd SW (i:Int))):=HA5.out.cell (by have:=HSWL.out;omega)
   have HE6:=Qz.k (a1z e (n:=6) (by decide +kernel) (by decide +kernel))
   have HE11:=Qz.k (a1z e (n:=11) (by decide +kernel) (by decide +kernel))
   have HE25:=Qz.k (a1z e (n:=25) (by decide +kernel) (by decide +kernel))
   have HR2:=Qz.k (a1z a (n:=2) (by decide +kernel) (by decide +kernel))
   have HR13:=Qz.k (a1z a (n:=13) (by decide +kernel) (by decide +kernel))
   have HR22:=Qz.k (a1z a (n:=22) (by decide +kernel) (by decide +kernel))
   have HNX:=Qz.k (show shaR SW KT s (i+1)=[(shaT1 e f g h (rd KT (i:Int)) (rd SW (i:Int))+shaT2 a b c)%4294967296,a,b,c,(d+shaT1 e f g h (rd KT (i:Int)) (rd SW (i:Int)))%4294967296,e,f,g]from by rw [shaR,HSR.out])
   generalize rd KT (i:Int)=kt at *
   generalize rd SW (i:Int)=wt at *
   go_upto_region 6 with(fail)
   refine axq (n:=28) (S:=fun w'=>w'.cell? ⟨g6,i,none⟩=some (.int .u32 kt)∧w'.cell? ⟨g5,i,none⟩=some (.int .u32 wt)) (ds:=[]) (bl 28 0) (by kernel_rfl) rfl rfl ⟨hkt,hwt⟩ (fun hHeld=>?_)
   refine pu_ 0 42 ?_ ?_ (bl 28 1) rfl rfl (by kernel_rfl) ?_ ?_ ?_
   rotate_left 2
   ·intro w';go_simp;with_reducible rfl
   ·simp only [Act.put,putA,putZ,putS,abq,abk];rfl
   refine pu_ 1 43 ?_ ?_ (bl 28 3) rfl rfl (by kernel_rfl) ?_ ?_ ?_
   rotate_left 2
   ·intro w';go_simp;with_reducible rfl
   ·simp only [Act.put,putA,putZ,putS,abq,abk];rfl
   refine pu_ 3 45 ?_ ?_ (bl 28 11) rfl rfl (by kernel_rfl) ?_ ?_ ?_
   rotate_left 2
   ·intro w';go_simp;with_reducible rfl
   ·simp only [Act.put,putA,putZ,putS,abq,abk];rfl
   refine pu_ 6 48 ?_ ?_ (bl 28 75) rfl rfl (by kernel_rfl) ?_ ?_ ?_
   rotate_left 2
   ·intro w';go_simp;with_reducible rfl
   ·simp only [Act.put,putA,putZ,putS,abq,abk];rfl
   refine pu_ 10 52 ?_ ?_ (bl 28 1099) rfl rfl (by kernel_rfl) ?_ ?_ ?_
   rotate_left 2
   ·intro w';go_simp;with_reducible rfl
   ·simp only [Act.put,putA,putZ,putS,abq,abk];rfl
   refine pu_ 11 53 ?_ ?_ (bl 28 3147) rfl rfl (by kernel_rfl) ?_ ?_ ?_
   rotate_left 2
   ·intro w';go_simp;with_reducible rfl
   ·simp only [Act.put,putA,putZ,putS,abq,abk];rfl
   refine pu_ 12 54 ?_ ?_ (bl 28 7243) rfl rfl (by kernel_rfl) ?_ ?_ ?_
   rotate_left 2
   ·intro w';go_simp;with_reducible rfl
   ·simp only [Act.put,putA,putZ,putS,abq,abk];rfl
   refine pu_ 13 55 ?_ ?_ (bl 28 15435) rfl rfl (by kernel_rfl) ?_ ?_ ?_
   rotate_left 2
   ·intro w';go_simp;with_reducible rfl
   ·simp only [Act.put,putA,putZ,putS,abq,abk];rfl
   refine pu_ 14 56 ?_ ?_ (bl 28 31819) rfl rfl (by kernel_rfl) ?_ ?_ ?_
   rotate_left 2
   ·intro w';go_simp;with_reducible rfl
   ·simp only [Act.put,putA,putZ,putS,abq,abk];rfl
   refine pu_ 15 57 ?_ ?_ (bl 28 64587) rfl rfl (by kernel_rfl) ?_ ?_ ?_
   rotate_left 2
   ·intro w';go_simp;with_reducible rfl
   ·simp only [Act.put,putA,putZ,putS,abq,abk];rfl
   refine pu_ 16 58 ?_ ?_ (bl 28 130123) rfl rfl (by kernel_rfl) ?_ ?_ ?_
   rotate_left 2
   ·intro w';go_simp;with_reducible rfl
   ·simp only [Act.put,putA,putZ,putS,abq,abk];rfl
   refine pu_ 17 59 ?_ ?_ (bl 28 261195) rfl rfl (by kernel_rfl) ?_ ?_ ?_
   rotate_left 2
   ·intro w';go_simp;with_reducible rfl
   ·simp only [Act.put,putA,putZ,putS,abq,abk];rfl
   refine pu_ 19 61 ?_ ?_ (bl 28 785483) rfl rfl (by kernel_rfl) ?_ ?_ ?_
   rotate_left 2
   ·intro w';go_simp;with_reducible rfl
   ·simp only [Act.put,putA,putZ,putS,abq,abk];rfl
   refine pu_ 20 62 ?_ ?_ (bl 28 1834059) rfl rfl (by kernel_rfl) ?_ ?_ ?_
   rotate_left 2
   ·intro w';go_simp;with_reducible rfl
   ·simp only [Act.put,putA,putZ,putS,abq,abk];rfl
   refine pu_ 23 65 ?_ ?_ (bl 28 10222667) rfl rfl (by kernel_rfl) ?_ ?_ ?_
   rotate_left 2
   ·intro w';go_simp;with_reducible rfl
   ·simp only [Act.put,putA,putZ,putS,abq,abk];rfl
   refine pu_ 24 66 ?_ ?_ (bl 28 26999883) rfl rfl (by kernel_rfl) ?_ ?_ ?_
   rotate_left 2
   ·intro w';go_simp;with_reducible rfl
   ·simp only [Act.put,putA,putZ,putS,abq,abk];rfl
   refine tk_ 21 63 ?_ ?_ (bl 28 29097035) rfl rfl (by kernel_rfl) hHeld ?_ ?_ ?_
   rotate_left 2
   ·rintro w' ⟨s0,s1⟩;go_simp;with_reducible rfl
   ·simp only [Act.put,putA,putZ,putS,abq,abk];rfl
   refine tk_ 25 67 ?_ ?_ (bl 28 62651467) rfl rfl (by kernel_rfl) hHeld ?_ ?_ ?_
   rotate_left 2
   ·rintro w' ⟨s0,s1⟩;go_simp;with_reducible rfl
   ·simp only [Act.put,putA,putZ,putS,abq,abk];rfl
   refine one_ (i:=2) (N:=some 44) (bl 28 62651471) rfl rfl (by kernel_rfl) (by decide) (fun K hK=>?_)
   refine aFq Tryz.func248 (by kernel_rfl) rfl #[.int .u32 e,.int .i64 6] (by rfl) rfl rfl (by simp only [List.map_toArray,List.map_cons,List.map_nil];first|done|rfl) ?_
   with_reducible refine(sha_rot.calls _ _ _ _ HE6.out).mono ?_
   rintro e w8 ⟨rfl,⟨n2,rfl⟩⟩
   refine⟨_,rfl,?_⟩
   refine hK.out _ _ ⟨hHeld.1,hHeld.2⟩ (fun hHeld=>?_)
   clear hK K
   refine aHz (a':=?_) ?_ ?_
   rotate_left
   ·show Act.put _ (some 44) _=_
    simp only [Act.put,putA,putZ,putS,abq,abk]
    rfl
   refine one_ (i:=4) (N:=some 46) (bl 28 62651487) rfl rfl (by kernel_rfl) (by decide) (fun K hK=>?_)
   refine aFq Tryz.func248 (by kernel_rfl) rfl #[.int .u32 e,.int .i64 11] (by rfl) rfl rfl (by simp only [List.map_toArray,List.map_cons,List.map_nil];first|done|rfl) ?_
   with_reducible refine(sha_rot.calls _ _ _ _ HE11.out).mono ?_
   rintro e w8 ⟨rfl,⟨n4,rfl⟩⟩
   refine⟨_,rfl,?_⟩
   refine hK.out _ _ ⟨hHeld.1,hHeld.2⟩ (fun hHeld=>?_)
   clear hK K
   refine aHz (a':=?_) ?_ ?_
   rotate_left
   ·show Act.put _ (some 46) _=_
    simp only [Act.put,putA,putZ,putS,abq,abk]
    rfl
   refine pu_ 5 47 ?_ ?_ (bl 28 62651519) rfl rfl (by kernel_rfl) ?_ ?_ ?_
   rotate_left 2
   ·intro w';go_simp;with_reducible rfl
   ·simp only [Act.put,putA,putZ,putS,abq,abk];rfl
   refine one_ (i:=7) (N:=some 49) (bl 28 62651647) rfl rfl (by kernel_rfl) (by decide) (fun K hK=>?_)
   refine aFq Tryz.func248 (by kernel_rfl) rfl #[.int .u32 e,.int .i64 25] (by rfl) rfl rfl (by simp only [List.map_toArray,List.map_cons,List.map_nil];first|done|rfl) ?_
   with_reducible refine(sha_rot.calls _ _ _ _ HE25.out).mono ?_
   rintro e w8 ⟨rfl,⟨n7,rfl⟩⟩
   refine⟨_,rfl,?_⟩
   refine hK.out _ _ ⟨hHeld.1,hHeld.2⟩ (fun hHeld=>?_)
   clear hK K
   refine aHz (a':=?_) ?_ ?_
   rotate_left
   ·show Act.put _ (some 49) _=_
    simp only [Act.put,putA,putZ,putS,abq,abk]
    rfl
   refine pu_ 8 50 ?_ ?_ (bl 28 62651903) rfl rfl (by kernel_rfl) ?_ ?_ ?_
   rotate_left 2
   ·intro w';go_simp;with_reducible rfl
   ·simp only [Act.put,putA,putZ,putS,abq,abk];rfl
   refine pu_ 9 51 ?_ ?_ (bl 28 62652415) rfl rfl (by kernel_rfl) ?_ ?_ ?_
   rotate_left 2
   ·intro w';go_simp;with_reducible rfl
   ·simp only [Act.put,putA,putZ,putS,abq,abk];rfl
   refine pu_ 18 60 ?_ ?_ (bl 28 62914559) rfl rfl (by kernel_rfl) ?_ ?_ ?_
   rotate_left 2
   ·intro w';go_simp;with_reducible rfl
   ·simp only [Act.put,putA,putZ,putS,abq,abk];rfl
   refine pu_ 22 64 ?_ ?_ (bl 28 67108863) rfl rfl (by kernel_rfl) ?_ ?_ ?_
   rotate_left 2
   ·intro w';go_simp;with_reducible rfl
   ·simp only [Act.put,putA,putZ,putS,abq,abk];rfl
   refine pu_ 26 68 ?_ ?_ (bl 28 134217727) rfl rfl (by kernel_rfl) ?_ ?_ ?_
   rotate_left 2
   ·intro w';go_simp;with_reducible rfl
   ·simp only [Act.put,putA,putZ,putS,abq,abk];rfl
   refine pu_ 27 16 ?_ ?_ (bl 28 268435455) rfl rfl (by kernel_rfl) ?_ ?_ ?_
   rotate_left 2
   ·intro w';go_simp;with_reducible rfl
   ·simp only [Act.put,putA,putZ,putS,abq,abk];rfl
   refine aPz (by kernel_rfl) ?_
   go_wp2_with (first
    |(go_at_call 248;first|(refine(sha_rot.calls _ 2 _ _ HR2.out).mono ?_;rintro e w8 ⟨rfl,⟨m2,rfl⟩⟩)|(refine(sha_rot.calls _ 13 _ _ HR13.out).mono ?_;rintro e w8 ⟨rfl,⟨m13,rfl⟩⟩)|(refine(sha_rot.calls _ 22 _ _ HR22.out).mono ?_;rintro e w8 ⟨rfl,⟨m22,rfl⟩⟩)))
   go_roundg (64-(i+1))
   case measure=>exact(by omega)
   case rel=>
    (try rw [HW.out])
    exact⟨i+1,_,a,b,c,_,e,f,g,rfl,rfl,rfl,rfl,rfl,rfl,rfl,rfl,rfl,rfl,hlt,⟨HNX.out⟩,⟨Arr.drewN HA2.out _⟩,⟨Arr.drewN HA4.out _⟩,⟨Arr.drewN HA5.out _⟩,⟨Arr.drewN HA6.out _⟩,⟨adz HB.out _⟩⟩
  ·have c3:decide ((i:Int)<64)=false:=decide_eq_false (by omega)
   have c4:decide (i<64)=false:=decide_eq_false hlt
   obtain rfl:i=64:=by omega
   have HT2:=Qz.k (show TH=aYk s [a,b,c,d,e,f,g,h] 8 from by rw [HTH.out,HSR.out])
   have HX8:=Qz.k (fun(j:Nat) (hj:j<8)=>index8 a b c d e f g h j hj)
   go_wp2
   obtain⟨X,hX⟩:∃ X,[a,b,c,d,e,f,g,h]=X:=⟨_,rfl⟩
   rw [hX]at HT2 HX8
   have HXE:=Qz.k hX
   clear hX HSR HA5 HA6
   go_loopg [111] 8 (fun kq v111 W'=>∃ (j:Nat),v111=.int .i64 (j:Int)∧kq=8-j∧j≤8∧Qz (Arr W' g2 177 .u32 (aYk s X j))∧Qz (Arr W' g4 177 .u32 (List.replicate 8 0))∧Qz (Below w.heap.size w W'))
   case atStart=>exact⟨0,rfl,rfl,by omega,HA2,HA4,HB⟩
   case round=>
    clear HA2 HA4 HB
    obtain⟨j,rfl,rfl,hj,HA2,HA4,HB⟩:=hrel
    have HLA:=Qz.k (show(aYk s X j).length=8 from by rw [bxz];exact HS.out)
    by_cases hlt2:j<8
    ·have c7:decide ((j:Int)<8)=true:=decide_eq_true (by omega)
     have c8:decide (j<8)=true:=decide_eq_true hlt2
     have n8:(j:Int)<8:=by omega
     have HW2:=Qz.k (show wrap64 ((j:Int)+1)=((j+1:Nat):Int)from by rw [agq (by omega) (by omega)];omega)
     have hix:=HX8.out j hlt2
     have hc2:wr.cell? ⟨g2,j,none⟩=some (.int .u32 (rd (aYk s X j) (j:Int))):=HA2.out.cell (by have:=HLA.out;omega)
     have hf2:=HA2.out.froz j
     have HNX:=Qz.k (show aYk s X (j+1)=(aYk s X j).set j ((rd (aYk s X j) (j:Int)+rd X (j:Int))%4294967296)from rfl)
     generalize rd (aYk s X j) (j:Int)=y at *
     generalize rd X (j:Int)=x at *
     go_wp2
     go_roundg (8-(j+1))
     case measure=>exact(by omega)
     case rel=>
      (try rw [HW2.out])
      exact⟨j+1,rfl,rfl,hlt2,⟨by rw [HNX.out];exact HA2.out.put j _⟩,⟨HA4.out.far (by show g4≠g2;have:=GE4.out;omega) _⟩,⟨adq HB.out GE2.out⟩⟩
    ·have c7:decide ((j:Int)<8)=false:=decide_eq_false (by omega)
     have c8:decide (j<8)=false:=decide_eq_false hlt2
     obtain rfl:j=8:=by omega
     rw [←HT2.out]at HA2 HLA
     have HI8:=Qz.k (show(Tryz.prog.info? 177).map (·.size)=some TH.length from by rw [HLA.out];kernel_rfl)
     have HEQ:=Qz.k (show(List.replicate 8 (0:Int)).length=TH.length from by rw [HLA.out];rfl)
     go_wp2_with (first
      |(refine ayk 177 (.tmp 2) rfl rfl rfl HA2.out Tryz.underlying177 HI8.out ?_)
      |(refine arq (g:=g4) (l':=TH) 177 (.tmp 4) (.tmp 122) rfl rfl rfl rfl rfl HA4.out HI8.out HEQ.out ?_))
     have HF:=Qz.k (Arr.row HA4.out TH)
     refine bodyPost_ret (v := .agg (arrV .u32 TH)) ?_ rfl ⟨rfl,?_⟩
     ·exact Arr.result rfl _ HF.out rfl Tryz.underlying177 HI8.out
     ·exact anz HB.out (by have:=GE2.out;have:=GE4.out;omega)
def b4 (x:Int):List Int:=[x/16777216%256,x/65536%256,x/256%256,x%256]
def a4q (s:List Int):List Int:=s.flatMap b4
theorem take_rd {l:List Int}{i:Nat}(hi:i<l.length):l.take i ++ [rd l (i:Int)]=l.take (i+1):=by
 rw [List.take_add_one,List.getElem?_eq_getElem hi]
 congr 1
 rw [aUk,List.getD,List.getElem?_eq_getElem hi]
 rfl
theorem b4_len (l:List Int):(l.flatMap b4).length=4*l.length:=by
 induction l with
 |nil=>rfl
 |cons x l ih=>rw [List.flatMap_cons,List.length_append,ih,List.length_cons,show(b4 x).length=4 from rfl];omega
theorem shaBytes_len {s:List Int}(h:s.length=8):(a4q s).length=32:=by rw [a4q,b4_len,h]
theorem bHk (s:List Int):∀ x∈a4q s,0≤x∧x<256:=fun x hx=>by
 obtain⟨y,_,h⟩:=List.mem_flatMap.1 hx
 simp only [b4,List.mem_cons,List.not_mem_nil,or_false]at h
 omega
theorem index8s (a b c d e f g h:Int)(j:Nat)(hj:j<8)(W:World):(Instr.index 177 (.agg #[.int .u32 a,.int .u32 b,.int .u32 c,.int .u32 d,.int .u32 e,.int .u32 f,.int .u32 g,.int .u32 h]) (.int .i64 (j:Int))).run Tryz.prog W=.ok (.int .u32 (rd [a,b,c,d,e,f,g,h] (j:Int))) W:=by
 obtain rfl|rfl|rfl|rfl|rfl|rfl|rfl|rfl:j=0∨j=1∨j=2∨j=3∨j=4∨j=5∨j=6∨j=7:=by omega
 all_goals kernel_rfl
theorem indexA (l:List Int)(hl:l.length=8)(j:Nat)(hj:j<8)(W:World):(Instr.index 177 (.agg (arrV .u32 l)) (.int .i64 (j:Int))).run Tryz.prog W=.ok (.int .u32 (rd l (j:Int))) W:=by
 have e:=list8 hl
 generalize rd l 0=a at e
 generalize rd l 1=b at e
 generalize rd l 2=c at e
 generalize rd l 3=d at e
 generalize rd l 4=f at e
 generalize rd l 5=g at e
 generalize rd l 6=h at e
 generalize rd l 7=k at e
 subst e
 exact index8s a b c d f g h k j hj W
set_option maxHeartbeats 4000000 in
theorem sha_state_bytes.calls (s:List Int)(hs:s.length=8)(w:World) :
  Calls Tryz.prog 200 #[.agg (arrV .u32 s)] w fun e w'=>∃ v0_:Value,e=.returned v0_∧Kd.R (Kd.int .u8) 5 w' w.heap.size (fun _=>True) v0_ (a4q s)∧Below w.heap.size w w':=by
 have HS:=Qz.k hs
 have HIX:=Qz.k (indexA s hs)
 have HI8:=Qz.k (show(Tryz.prog.info? 177).map (·.size)=some s.length from by rw [hs];kernel_rfl)
 clear hs
 go_enter Tryz.func200,Tryz.ntmps200
 go_wp2_with (first
  |((with_reducible refine ahk (N:=1) rfl ?_);refine aik ?hg (N:=1) ?hd (cs:=arrV .u32 s) (t:=177) ?hr ?_;(case hd=>rfl);(case hg=>rfl);(case hr=>first|(go_simp;done)|(go_simp;rfl));intro g1 hg w4 hbox hb;have HB4:=Qz.k hb;have HA1:=Qz.k (show Arr w4 g1 177 .u32 s from hbox);clear hbox hb hg)
  |((with_reducible refine ahk (N:=6) rfl ?_);refine Kd.R_mkcap (Kd.int .u8) (w0:=w) w.heap.size 5 rfl (N:=6) rfl 27 (.const (.int .i64 0)) (.const (.int .i64 32)) rfl 32 rfl rfl Tryz.underlying27 (.int .u8 0) 1 info5 rfl (by decide) (by decide) 0 (ok:=fun _=>True) (okp:=fun _=>True) rfl (fun _ h=>h) trivial (by decide) (by decide) HB4.out (afq HB4.out) ?_;intro v6 w5 ho hb hg hat;have HA15:=Qz.k (ark HA1.out hg (by simp));have HB5:=Qz.k hb;have HO5:=Qz.k ho;clear ho hb hg hat HA1 HB4)
  |(refine ayk 177 (.tmp 1) rfl rfl rfl HA15.out Tryz.underlying177 HI8.out ?_))
 go_loopg [3,8] 8 (fun kq v3 v8 W'=>∃ (j:Nat) (out:List Int),v8=.int .i64 (j:Int)∧kq=8-j∧j≤8∧Qz (out=(s.take j).flatMap b4)∧Qz (Below w.heap.size w W')∧Qz (Kd.R (Kd.int .u8) 5 W' w.heap.size (fun _=>True) v3 out))
 case atStart=>exact⟨0,[],rfl,rfl,by omega,⟨rfl⟩,HB5,HO5⟩
 case round=>
  clear HA15 HB5 HO5
  obtain⟨j,out,rfl,rfl,hj,HOE,HB,HO⟩:=hrel
  by_cases hlt2:j<8
  ·have c7:decide ((j:Int)<8)=true:=decide_eq_true (by omega)
   have c8:decide (j<8)=true:=decide_eq_true hlt2
   have n8:(j:Int)<8:=by omega
   have HW2:=Qz.k (show wrap64 ((j:Int)+1)=((j+1:Nat):Int)from by rw [agq (by omega) (by omega)];omega)
   have hix:=HIX.out j hlt2
   have HNX:=Qz.k (show out++b4 (rd s (j:Int))=(s.take (j+1)).flatMap b4 from by rw [HOE.out,←take_rd (by have:=HS.out;omega),List.flatMap_append];simp)
   have HOL:=Qz.k (show out.length≤32 from by rw [HOE.out,b4_len,List.length_take];have:=HS.out;omega)
   generalize rd s (j:Int)=x at *
   go_wp2_with (first
    |((with_reducible refine ahk (N:=23) rfl ?_);refine Kd.bwz (Kd.int .u8) _ 5 ?hg (N:=23) ?hd (xs:=b4 x) (inner:=[.int .u8 (x/16777216%256),.int .u8 (x/65536%256),.int .u8 (x/256%256),.int .u8 (x%256)]) (ok:=fun _=>True) (okp:=fun _=>True) ?hr ?hp (fun _ hk=>hk) trivial (Below.refl _ _) (Nat.le_refl _) (by simp [b4]) ?_;(case hd=>rfl);(case hg=>rfl);(case hr=>first|(go_simp;done)|(go_simp;rfl));(case hp=>exact(Reps.one (show Kd.M (Kd.int .u8) _ _ _ (x/16777216%256) [.int .u8 (x/16777216%256)]from rfl) (Reps.one (show Kd.M (Kd.int .u8) _ _ _ (x/65536%256) [.int .u8 (x/65536%256)]from rfl) (Reps.one (show Kd.M (Kd.int .u8) _ _ _ (x/256%256) [.int .u8 (x/256%256)]from rfl) (Reps.one (show Kd.M (Kd.int .u8) _ _ _ (x%256) [.int .u8 (x%256)]from rfl) (Reps.none _ _))))));intro v23 w23 ho hb hg_ hnew_;obtain⟨Al,cl,el_⟩:=Kd.afz ho;subst el_;have HL:=Qz.k ho;have HOL2:=Qz.k (Kd.ahz HO.out hb);have HBL:=Qz.k (aaz HB.out hb);clear ho hb HO HB hg_ hnew_)
    |((with_reducible refine agk (b := .append) (xs:=#[.tmp 11,.tmp 23]) rfl ?_);at_builtin;refine Kd.ahq (Kd.int .u8) (w0:=w) w.heap.size rfl (.tmp 11) (.tmp 23) 27 5 (.int .u8 0) 1 rfl Tryz.underlying27 info5 rfl (by decide) (by omega) u3 out (b4 x) _ _ _ (fun _=>True) (fun _=>False) rfl rfl ?aO ?aR (fun _ _ h=>h) (fun _ h=>h.elim) ?aF ?aB ?aS ?aL ?_;(case aR=>exact(Kd.ack HL.out).2.2);(case aB=>exact HBL.out);(case aF=>exact(fun _ _=>trivial));(case aO=>exact HOL2.out);(case aS=>exact(afq HBL.out));(case aL=>have:=HOL.out;simp [b4];omega);intro v155 w12 ho hb hg hat;have HB9:=Qz.k hb;have HO9:=Qz.k ho;clear ho hb hg hat))
   go_roundg (8-(j+1))
   case measure=>exact(by omega)
   case rel=>
    (try rw [HW2.out])
    exact⟨j+1,out++b4 x,rfl,rfl,hlt2,HNX,HB9,HO9⟩
  ·have c7:decide ((j:Int)<8)=false:=decide_eq_false (by omega)
   have c8:decide (j<8)=false:=decide_eq_false hlt2
   have HFIN:=Qz.k (show out=a4q s from by rw [HOE.out,show j=8 by omega,←HS.out,List.take_length];rfl)
   go_wp2
   go_ret
   rw [←HFIN.out]
   exact⟨_,rfl,HO.out,HB.out⟩
def aDk (bg:Bool)(s p:List Int)(n:Nat):List Value := .bool bg :: (s.map (Value.int .u32)++(p.map (Value.int .u8) ++ [.int .i64 (n:Int)]))
def IsH (W:World)(g:Nat)(bg:Bool)(s p:List Int)(n:Nat):Prop:=W.heap[g]? = some (.cells (aDk bg s p n).toArray 180 (0,0))∧s.length=8∧p.length=64
theorem aTk {bg:Bool}{s p:List Int}{n:Nat}(hs:s.length=8)(hp:p.length=64):(aDk bg s p n).length=74:=by simp [aDk,hs,hp]
theorem hashL_s {bg:Bool}{s p:List Int}{n:Nat}{j:Nat}(hj:j<s.length):(aDk bg s p n)[1+j]? =(s.map (Value.int .u32))[j]? := by
 rw [aDk,Nat.add_comm,List.getElem?_cons_succ,List.getElem?_append_left (by rw [List.length_map];exact hj)]
theorem hashL_p {bg:Bool}{s p:List Int}{n:Nat}(hs:s.length=8){j:Nat}(hj:j<p.length):(aDk bg s p n)[9+j]? =(p.map (Value.int .u8))[j]? := by
 rw [aDk,show 9+j=(8+j)+1 by omega,List.getElem?_cons_succ,List.getElem?_append_right (by rw [List.length_map];omega),List.getElem?_append_left (by rw [List.length_map,List.length_map];omega)]
 congr 1
 rw [List.length_map]
 omega
theorem hashL_n {bg:Bool}{s p:List Int}{n:Nat}(hs:s.length=8)(hp:p.length=64):(aDk bg s p n)[73]? = some (.int .i64 (n:Int)):=by
 rw [aDk,List.getElem?_cons_succ,List.getElem?_append_right (by rw [List.length_map];omega),List.getElem?_append_right (by rw [List.length_map,List.length_map];omega)]
 simp [hs,hp]
section
variable {W W1:World}{g:Nat}{bg:Bool}{s p:List Int}{n:Nat}
theorem IsH.lt (h:IsH W g bg s p n):g<W.heap.size:=aQk h.1
theorem IsH.below (h:IsH W g bg s p n)(hb:Below W.heap.size W W1):IsH W1 g bg s p n:=⟨agz h.1 hb,h.2⟩
theorem IsH.drew (h:IsH W g bg s p n):IsH W.drew g bg s p n:=h
theorem IsH.drewN (h:IsH W g bg s p n)(m:Nat):IsH (W.drewN m) g bg s p n:=h
theorem IsH.keep (h:IsH W g bg s p n){g':Nat}(hk:alk W W1 g' none)(hne:g≠g'):IsH W1 g bg s p n:=⟨(hk.2 g h.lt hne (by simp)).trans h.1,h.2⟩
theorem IsH.froz (h:IsH W g bg s p n)(i:Nat):W.frozen? ⟨g,i,none⟩=false:=afk h.1 i
theorem IsH.cell (h:IsH W g bg s p n)(i:Nat):W.cell? ⟨g,i,none⟩=(aDk bg s p n)[i]? :=(aak h.1 i).trans (by simp)
theorem IsH.c0 (h:IsH W g bg s p n):W.cell? ⟨g,0,none⟩=some (.bool bg):=h.cell 0
theorem IsH.cn (h:IsH W g bg s p n):W.cell? ⟨g,73,none⟩=some (.int .i64 (n:Int)):=(h.cell 73).trans (hashL_n h.2.1 h.2.2)
theorem IsH.set0 (h:IsH W g bg s p n)(b':Bool):IsH (W.setCell ⟨g,0,none⟩ (.bool b')) g b' s p n:=⟨anq h.1 0 _ (by simp [aDk]),h.2⟩
theorem IsH.setn (h:IsH W g bg s p n)(n':Nat):IsH (W.setCell ⟨g,73,none⟩ (.int .i64 (n':Int))) g bg s p n':=⟨anq h.1 73 _ (by
 rw [List.setIfInBounds_toArray]
 congr 1
 rw [aDk,List.set_cons_succ,List.set_append_right _ _ (by rw [List.length_map,h.2.1];decide),List.set_append_right _ _ (by rw [List.length_map,List.length_map,h.2.1,h.2.2];decide),List.length_map,List.length_map,h.2.1,h.2.2]
 rfl),h.2⟩
theorem IsH.loadS (h:IsH W g bg s p n):(Instr.loadAt 177 (.pointer (some ⟨g,1,none⟩))).run Tryz.prog W=.ok (.agg (arrV .u32 s)) W:=
 load_seg W g 1 177 (s.map (Value.int .u32)) _ (fun j v hv=>by
  have hj:j<s.length:=by
   have:=(List.getElem?_eq_some_iff.1 hv).1
   rwa [List.length_map]at this
  rw [h.cell,hashL_s hj,hv]) Tryz.underlying177 rfl (by rw [List.length_map,h.2.1];kernel_rfl)
theorem IsH.storeS (h:IsH W g bg s p n){s':List Int}(hs':s'.length=8):(Instr.storeAt 177 (.pointer (some ⟨g,1,none⟩)) (.agg (arrV .u32 s'))).run Tryz.prog W=.ok () (W.setRow g (aDk bg s' p n).toArray):=by
 have:=store_seg (P:=Tryz.prog) W g 1 180 177 (aDk bg s p n).toArray (s'.map (Value.int .u32)) h.1 (by rw [List.length_map,hs'];kernel_rfl) (by rw [List.length_map,hs',List.size_toArray,aTk h.2.1 h.2.2];decide) (fun v hv=>by obtain⟨x,_,rfl⟩:=List.mem_map.1 hv;rfl)
 rw [show arrV .u32 s'=(s'.map (Value.int .u32)).toArray from rfl,this]
 refine congrArg (fun c=>Result.ok () (W.setRow g c)) (congrArg List.toArray ?_)
 rw [List.length_map,hs',List.toList_toArray]
 simp only [aDk,List.take_succ_cons,List.take_zero,List.drop_succ_cons]
 rw [List.drop_append_of_le_length (by rw [List.length_map,h.2.1];decide),List.drop_of_length_le (by rw [List.length_map,h.2.1];decide)]
 rfl
theorem IsH.row (h:IsH W g bg s p n){bg':Bool}{s' p':List Int}{n':Nat}(hs:s'.length=8)(hp:p'.length=64):IsH (W.setRow g (aDk bg' s' p' n').toArray) g bg' s' p' n':=⟨by
 unfold World.setRow
 simp [Array.getElem?_modify,h.1],hs,hp⟩
theorem IsH.part (h:IsH W g bg s p n):Kd.C (Kd.int .u8) W (some ⟨g,9,none⟩) p.length p:=
 Kd.aSk (enc:=Value.int .u8) (d:=(0:Int)) (h1:=fun _=>rfl) ⟨rfl,by rw [h.2.2];decide,fun _=>⟨_,rfl,fun j hj=>by
  rw [addr_add,h.cell,hashL_p h.2.1 hj,List.getElem?_map,List.getElem?_eq_getElem hj,List.getD_eq_getElem?_getD,List.getElem?_eq_getElem hj]
  rfl⟩⟩
theorem IsH.copy (h:IsH W g bg s p n){r:Nat}(hr:r≤64){b:List Int}{ad:Addr}{c:Nat}(hb:Kd.C (Kd.int .u8) W (some ad) b.length b){k:Nat}(hk:k=min b.length (64-r))(ty:TypeId) :
  (Builtin.copy_ #[27,27] ty #[.slice (some ⟨g,9+r,none⟩) (64-r) (64-r),.slice (some ad) b.length c]).run Tryz.prog W=.ok (goInt k) (W.setRow g (aDk bg s (p.take r++b.take k++p.drop (r+k)) n).toArray):=by
 have hl:((b.take k).map (Value.int .u8)).length=k:=by rw [List.length_map,List.length_take];omega
 have:=run_copy_row Tryz.prog W 27 27 ty 5 g (9+r) (64-r) (64-r) ad b.length c (aDk bg s p n).toArray 180 ((b.take k).map (Value.int .u8)) Tryz.underlying27 (by kernel_rfl) h.1 (by rw [hl,hk])
  (fun j v hv=>by
   rw [List.getElem?_map]at hv
   obtain⟨x,hx,rfl⟩:=Option.map_eq_some_iff.1 hv
   have hj:j<k:=by
    have:=(List.getElem?_eq_some_iff.1 hx).1
    rw [List.length_take]at this
    omega
   rw [List.getElem?_take_of_lt hj]at hx
   obtain⟨ad',e,hc⟩:=Kd.asz hb (j:Int) (by omega) (by omega)
   injection e with e
   subst e
   rw [Int.toNat_natCast]at hc
   rw [hc,aUk,List.getD_eq_getElem?_getD,hx]
   rfl)
  (by rw [hl,List.size_toArray,aTk h.2.1 h.2.2];omega) (fun v hv=>by obtain⟨x,_,rfl⟩:=List.mem_map.1 hv;rfl)
 rw [this,hl]
 refine congrArg (fun c=>Result.ok (goInt k) (W.setRow g c)) (congrArg List.toArray ?_)
 have e1:(aDk bg s p n).take (9+r)=.bool bg :: (s.map (Value.int .u32)++(p.take r).map (Value.int .u8)):=by
  rw [aDk,show 9+r=(8+r)+1 by omega,List.take_succ_cons,List.take_append,List.take_of_length_le (by rw [List.length_map,h.2.1];omega),List.length_map,h.2.1,Nat.add_sub_cancel_left,List.take_append_of_le_length (by rw [List.length_map,h.2.2];exact hr),List.map_take]
 have e2:(aDk bg s p n).drop (9+r+k)=(p.drop (r+k)).map (Value.int .u8) ++ [.int .i64 (n:Int)]:=by
  rw [aDk,show 9+r+k=(8+(r+k))+1 by omega,List.drop_succ_cons,List.drop_append,List.drop_of_length_le (by rw [List.length_map,h.2.1];omega),List.nil_append,List.length_map,h.2.1,Nat.add_sub_cancel_left,List.drop_append_of_le_length (by rw [List.length_map,h.2.2];omega),List.map_drop]
 rw [List.toList_toArray,e1,e2]
 simp [aDk,List.append_assoc]
end
end Go.Proofs.YthggdomocichdaaGreatDoor.P
