/- Put together: CurS. -/
import Derived.Test.YthggdomocichdaaGreatDoorZ9
set_option linter.unusedVariables false
set_option linter.unusedSimpArgs false
namespace Go.Proofs.YthggdomocichdaaGreatDoor.P
open Go.RowKit Go.Proofs.YthggdomocichdaaGreatDoor.Kit Go.Proofs.YthggdomocichdaaGreatDoor.Var Go.Proofs.YthggdomocichdaaGreatDoorW.PrintWords Go.Proofs.YthggdomocichdaaGreatDoorW.PrintLast Go.Proofs.YthggdomocichdaaGreatDoorW.PrintMore
def apz (w0 W:World)(g:Nat)(f0:List Int):Prop:=Cu W w0.heap.size g f0
section
variable {w0 W:World}{g:Nat}{f0:List Int}
theorem apz.below {W1:World}(h:apz w0 W g f0)(hw:Below W.heap.size W W1):apz w0 W1 g f0:=Cu.below h hw
theorem apz.alloc (h:apz w0 W g f0)(o:Obj):apz w0 (W.alloc o) g f0:=Cu.alloc h o
theorem apz.drewN (h:apz w0 W g f0)(m:Nat):apz w0 (W.drewN m) g f0:=Cu.drewN h m
theorem apz.drew (h:apz w0 W g f0):apz w0 W.drew g f0:=Cu.drew1 h
theorem apz.set_0 : True:=trivial
theorem apz.at_ {w':World}{m:Nat}(hq:W.drewN m=w')(h:apz w0 W g f0):apz w0 w' g f0:=by
 subst hq
 exact Cu.drewN h m
theorem apz.ge (h:apz w0 W g f0):w0.heap.size≤g:=by
 obtain⟨v,hg,hb,hq⟩:=h
 exact hb
theorem apz.lt (h:apz w0 W g f0):g<W.heap.size:=by
 obtain⟨v,hg,hb,hq⟩:=h
 exact aQk hg
theorem apz.apart {α : Type}{d:Kd α}{e:Nat}{base:Nat}{ok:Nat→Prop}{v:Value}{xs:List α}(h:apz w0 W g f0)(ho:d.R e W base ok v xs)(ht:∀ q,q∈e :: d.E→q≠132):d.R e W base (fun k=>ok k∧k≠g) v xs:=by
 obtain⟨u,hg,hb,hq⟩:=h
 exact Kd.aLk ho hg ht
def CuAway132 (W:World)(g:Nat)(f0:List Int)(row:Option Nat):Prop:=some g≠row∧∀ (B:Nat) (v:Value),Kd.Q (Kd.int .u8) 5 W B (fun k=>k≠g) v f0→∀ k,v.ownBlock=some k→some k≠row
theorem apz.own_ne {α : Type}{d:Kd α}{e:Nat}{base:Nat}{ok:Nat→Prop}{v:Value}{xs:List α}(h:apz w0 W g f0)(ho:d.R e W base ok v xs)(ht:e≠132∧e≠5):CuAway132 W g f0 v.ownBlock:=by
 obtain⟨u,hg,hb,hq⟩:=h
 refine⟨Kd.R_ne ho hg ht.1,fun B u' hq' k hk=>?_⟩
 obtain⟨cells,hc⟩:=Kd.Q_typed hq' k hk
 exact Kd.R_ne ho hc ht.2
theorem apz.grown {W1:World}{row:Option Nat}(h:apz w0 W g f0)(hw:W.grownBy W1 row)(hne:CuAway132 W g f0 row):apz w0 W1 g f0:=by
 obtain⟨u,hg,hb,hq⟩:=h
 refine⟨u,ark hg hw hne.1,hb,Kd.Q_mono (Kd.Q_grown (ok:=fun k=>k≠g∧some k≠row) ?_ hw (fun k hk=>hk.2)) (fun _ hk=>hk.1)⟩
 have hn:=hne.2 w0.heap.size u hq
 obtain⟨h0,inner,hr,hreps⟩:=hq
 exact⟨fun k hk=>⟨h0 k hk,hn k hk⟩,inner,hr,hreps⟩
end
def a6z (s:List Int):Prop:=(∀ x∈s,0≤x∧x<256)∧s.length<140737488355328
instance (s:List Int):Decidable (a6z s):=by
 unfold a6z
 exact inferInstance
def cursor_New.f (l0:List Int):Option (List Int):=if a6z l0 then some l0 else none
def cursor_Cursor_Bytes.f (s:List Int)(n:Int):Option (List Int×Int×List Int):=if a6z s then some ((aAk s n).1,(aAk s n).2.2,(aAk s n).2.1)else none
def cursor_Cursor_Fixed.f (s:List Int)(n:Int):Option (Int×Int×List Int):=if a6z s then some ((a8q s n).1,(a8q s n).2.2,(a8q s n).2.1)else none
def cursor_Cursor_Varint.f (s:List Int):Option (Int×Int×List Int):=if a6z s then some ((a6q s).1,(a6q s).2.2,(a6q s).2.1)else none
def cursor_Cursor_Block.f (s:List Int)(n:Int):Option (List Int×Int×List Int):=if a6z s∧n≤9223372036854775807 then some ((bvz s n).1,(bvz s n).2.2,(bvz s n).2.1)else none
def cursor_Cursor_End.f (s:List Int):Option (Int×List Int):=if a6z s then some ((if 0<s.length then 3 else 0),s)else none
theorem CuP.keep {w0 W W':World}{g:Nat}{b:List Int}(h:CuP w0 W W' g b):apz w0 W' g b∧Below w0.heap.size w0 W'∧alk W W' g none:=⟨h.1,h.2.1,h.2.2.1,fun i hi hne _=>h.2.2.2 i hi hne⟩
theorem cursor_New.calls (A0:Option Addr)(c0:Nat)(l0:List Int)(r:List Int)(w0 w:World)(hB:Below w0.heap.size w0 w)(hr0:Kd.C (Kd.int .u8) w A0 l0.length l0)(hc0:l0.length≤c0)(h:cursor_New.f l0=some r) :
  Calls Tryz.prog 55 #[.slice A0 l0.length c0] w fun e w'=>∃ g_:Nat,e=.returned (.pointer (some ⟨g_,0,none⟩))∧apz w0 w' g_ r∧Below w0.heap.size w0 w'∧Below w.heap.size w w':=by
 unfold cursor_New.f at h
 split at h
 ·next hc=>
  injection h with h
  subst h
  refine(New_any w0 w A0 c0 l0 hB hr0 hc0 hc.2).mono ?_
  rintro e w' ⟨g,rfl,hcu,_,hb1,hb2⟩
  exact⟨g,rfl,hcu,hb1,hb2⟩
 ·cases h
theorem cursor_Cursor_Bytes.calls (g:Nat)(s0_0:List Int)(a1:Int)(r1:List Int)(r2:Int)(r3:List Int)(w0 w:World)(hI:apz w0 w g s0_0)(hB:Below w0.heap.size w0 w)(h:cursor_Cursor_Bytes.f s0_0 a1=some (r1,r2,r3)) :
  Calls Tryz.prog 58 #[.pointer (some ⟨g,0,none⟩),.int .i64 a1] w fun e w'=>∃ v0_:Value,e=.returned (.tuple #[v0_,.int .i64 r2])∧Kd.R (Kd.int .u8) 5 w' w.heap.size (fun _=>True) v0_ r1∧apz w0 w' g r3∧Below w0.heap.size w0 w'∧alk w w' g none:=by
 unfold cursor_Cursor_Bytes.f at h
 split at h
 ·next hc=>
  injection h with h
  injection h with h1 h2
  injection h2 with h2 h3
  subst h1 h2 h3
  refine(Bytes_any w0 w g s0_0 a1 hI hB hc.2).mono ?_
  rintro e w' ⟨v,rfl,ho,hp⟩
  exact⟨v,rfl,ho,hp.keep⟩
 ·cases h
theorem cursor_Cursor_Block.calls (g:Nat)(s0_0:List Int)(a1:Int)(r1:List Int)(r2:Int)(r3:List Int)(w0 w:World)(hI:apz w0 w g s0_0)(hB:Below w0.heap.size w0 w)(h:cursor_Cursor_Block.f s0_0 a1=some (r1,r2,r3)) :
  Calls Tryz.prog 56 #[.pointer (some ⟨g,0,none⟩),.int .i64 a1] w fun e w'=>∃ v0_:Value,e=.returned (.tuple #[v0_,.int .i64 r2])∧Kd.R (Kd.int .u8) 5 w' w.heap.size (fun _=>True) v0_ r1∧apz w0 w' g r3∧Below w0.heap.size w0 w'∧alk w w' g none:=by
 unfold cursor_Cursor_Block.f at h
 split at h
 ·next hc=>
  injection h with h
  injection h with h1 h2
  injection h2 with h2 h3
  subst h1 h2 h3
  refine(Block_any w0 w g s0_0 a1 hI hB hc.1.2 hc.1.1 hc.2).mono ?_
  rintro e w' ⟨v,rfl,ho,hp⟩
  exact⟨v,rfl,ho,hp.keep⟩
 ·cases h
theorem cursor_Cursor_Fixed.calls (g:Nat)(s0_0:List Int)(a1:Int)(r1:Int)(r2:Int)(r3:List Int)(w0 w:World)(hI:apz w0 w g s0_0)(hB:Below w0.heap.size w0 w)(h:cursor_Cursor_Fixed.f s0_0 a1=some (r1,r2,r3)) :
  Calls Tryz.prog 105 #[.pointer (some ⟨g,0,none⟩),.int .i64 a1] w fun e w'=>e=.returned (.tuple #[.int .u64 r1,.int .i64 r2])∧apz w0 w' g r3∧Below w0.heap.size w0 w'∧alk w w' g none:=by
 unfold cursor_Cursor_Fixed.f at h
 split at h
 ·next hc=>
  injection h with h
  injection h with h1 h2
  injection h2 with h2 h3
  subst h1 h2 h3
  refine(Fixed_any w0 w g s0_0 a1 hI hB hc.2 hc.1).mono ?_
  rintro e w' ⟨rfl,hp⟩
  exact⟨rfl,hp.keep⟩
 ·cases h
theorem cursor_Cursor_Varint.calls (g:Nat)(s0_0:List Int)(r1:Int)(r2:Int)(r3:List Int)(w0 w:World)(hI:apz w0 w g s0_0)(hB:Below w0.heap.size w0 w)(h:cursor_Cursor_Varint.f s0_0=some (r1,r2,r3)) :
  Calls Tryz.prog 120 #[.pointer (some ⟨g,0,none⟩)] w fun e w'=>e=.returned (.tuple #[.int .u64 r1,.int .i64 r2])∧apz w0 w' g r3∧Below w0.heap.size w0 w'∧alk w w' g none:=by
 unfold cursor_Cursor_Varint.f at h
 split at h
 ·next hc=>
  injection h with h
  injection h with h1 h2
  injection h2 with h2 h3
  subst h1 h2 h3
  refine(Varint_any w0 w g s0_0 hI hB hc.2 hc.1).mono ?_
  rintro e w' ⟨rfl,hp⟩
  exact⟨rfl,hp.keep⟩
 ·cases h
theorem cursor_Cursor_End.calls (g:Nat)(s0_0:List Int)(r1:Int)(r2:List Int)(w0 w:World)(hI:apz w0 w g s0_0)(hB:Below w0.heap.size w0 w)(h:cursor_Cursor_End.f s0_0=some (r1,r2)) :
  Calls Tryz.prog 60 #[.pointer (some ⟨g,0,none⟩)] w fun e w'=>e=.returned (.int .i64 r1)∧apz w0 w' g r2∧Below w0.heap.size w0 w'∧alk w w' g none:=by
 unfold cursor_Cursor_End.f at h
 split at h
 ·next hc=>
  injection h with h
  injection h with h1 h2
  subst h1 h2
  refine(End_any w0 w g s0_0 hI).mono ?_
  rintro e w' ⟨rfl,hd⟩
  exact⟨rfl,(CuP.drew hI hB hd).keep⟩
 ·cases h
end Go.Proofs.YthggdomocichdaaGreatDoor.P
