/- Put together: Range. -/
import Derived.RangeFuncNested
import Derived.RangeFuncBound
import Derived.RangeFuncCalls
import Derived.RangeFuncLeaves
import Derived.OwnWalkIn
import Derived.Test.YthggdomocichdaaGreatDoorProg
set_option linter.unusedVariables false
namespace Go.Proofs.YthggdomocichdaaGreatDoor.P
open Go.RowKit
section
variable {F:Fence}{n:Nat}{P:Program}
def Yields {α : Type}(F:Fence)(n:Nat)(P:Program)(gf:Nat)(lb:Array Value)(encs : α → Array Value)(X:List α → α → World→Prop)(K:World→World→Prop)(G S Sp:List α → Prop)(w:World):Prop:=
 ∀ (l:Nat) (J Jx:List α → World→Prop) (W:World),Below w.heap.size w W→(∀ pre A B,J pre A→Below A.heap.size A B→J pre B) →
  (∀ pre x W1,J pre W1→X pre x W1→YieldAt F (n-1) P l (encs x) W1 fun e W'=>(e=.returned (.bool true)∧G (pre ++ [x])∧J (pre ++ [x]) W'∧K W1 W')∨(e=.returned (.bool false)∧Jx (pre ++ [x]) W'))→J [] W →
  CallsIn F n P gf (#[.func (.yield l) #[] #[]]++lb) W fun e W'=>(∃ v,e=.returned v)∧((∃ xs,S xs∧J xs W')∨(∃ pre,Sp pre∧Jx pre W'))
def bnk (B:Nat)(I:World→Prop):Prop := ∀ (A:World) (l:Nat) (o o':Obj),B≤l→A.heap[l]? = some o→o.isCells=false→I A→I (A.putObj l o')
theorem bYk {α : Type}{g:Operand}{ps:Array Tmp}{assign body:Code}{Q:Exit→Act→World→Prop}{a:Act}{w:World}(hro:F.round=none)(h1:1≤n)
  {gf:Nat} {lb:Array Value} (hg:a.eval g=.func (.func gf) #[] lb) (hFg:F.fn gf) (eg:∀ args w,(callFunc gf args).run P w=.ok (.enter gf args) w)
  {encs : α → Array Value} {X:List α → α → World→Prop} {K:World→World→Prop} {G S Sp:List α → Prop} (hseq:Yields F (n-1) P gf lb encs X K G S Sp w)
  (hKt:∀ {A B C:World},K A B→K B C→K A C) (hKp:∀ (A:World) (l:Nat) (o o':Obj),w.heap.size≤l→A.heap[l]? = some o→o.isCells=false→K A (A.putObj l o')) (hps:∀ x,(encs x).size=ps.size)
  (I:List α → World→Prop) (Ix:Code→List α → World→Prop) (hI:∀ pre,bnk w.heap.size (I pre)) (hIb:∀ pre A B,I pre A→Below A.heap.size A B→I pre B) (hIx:∀ c pre,bnk w.heap.size (Ix c pre)) (hX:∀ pre x,bnk w.heap.size (X pre x))
  (hG:∀ pre x W,I (pre ++ [x]) W→G (pre ++ [x])) (h0:I [] w) (a₁ : α → Act)
  (hassign:∀ (l:Nat) (x : α) (W:World) (C:Act→World→Prop),C (a₁ x) W →
   assign.wpIn (F.inRound l) (n-1-1) P (Exit.then C (fun _ _ _=>False)) { tmps:=(ps.zip (encs x)).foldl (fun t (p,v)=>t.setIfInBounds p v) a.tmps,defers:=[] } W)
  (hbody:∀ (l:Nat) (pre:List α) (x : α) (W:World),I pre W→X pre x W→body.wpIn (F.inRound l) (n-1-1) P (ownPostG w.heap.size K I Ix (pre ++ [x]) W) (a₁ x) W)
  (hdone:∀ (D:Nat) (xs:List α) (W:World),w.heap.size≤D→S xs→I xs W→W.heap[D]? = some (.deferred (some []))→Q .normal { a with defers:={ target := .collected D,args:=#[] } :: a.defers } W)
  (hstop:∀ (D:Nat) (c:Code) (pre:List α) (W:World),w.heap.size≤D→Sp pre→Ix c pre W→W.heap[D]? = some (.deferred (some []))→c.wpIn F n P Q { a with defers:={ target := .collected D,args:=#[] } :: a.defers } W) :
  (Code.rangeFunc g ps assign body).wpIn F n P Q a w:=by
 refine wpIn_rangeFunc fun fn hfn=>?_
 rw [hro]
 let rc:LoopState→Option Code→Loop:=fun st pe=>{ state:=st,pending:=pe,fn,tmps:=a.tmps,params:=ps,assign,body,defers:=w.heap.size }
 have hent:=run_enterLoop_outer (P:=P) (w:=w) fn a.tmps ps assign body
 generalize hWs:(w.alloc (.deferred (some []))).alloc (.loop (rc .ready none))=Ws
 have hbs:Below w.heap.size w Ws:=by
  rw [←hWs]
  exact((Below.refl _ w).alloc (Nat.le_refl _) _).alloc (by simp) _
 have hsz:Ws.heap.size=w.heap.size+2:=by rw [←hWs];simp
 have hls:Ws.heap[w.heap.size+1]? = some (.loop (rc .ready none)):=by
  rw [←hWs]
  have:=World.alloc_heap_new (w.alloc (.deferred (some []))) (.loop (rc .ready none))
  rwa [World.size_alloc]at this
 have hds:Ws.heap[w.heap.size]? = some (.deferred (some [])):=by
  rw [←hWs]
  exact(Below.heap_alloc _ _ _ (by simp)).trans (World.alloc_heap_new w _)
 have hIs:I [] Ws:=hIb _ _ _ h0 hbs
 refine⟨w.heap.size+1,[{ target := .collected w.heap.size,args:=#[] }],Ws,{ target := .fn (.func gf) lb,args:=#[.func (.yield (w.heap.size+1)) #[] #[]] },Ws,gf,#[.func (.yield (w.heap.size+1)) #[] #[]]++lb,Ws,?_,?_,?_,?_,fun _=>h1,?_⟩
 ·rw [←hWs]
  exact hent
 ·simp only [resolve,hg]
  simp [go_sem]
 ·intro f' hf'
  simp [Target.leads]at hf'
  subst hf'
  exact hFg
 ·simp [invoke,go_sem,eg]
 have keepB:∀ {A B:World} {k:Nat} {o:Obj},A.heap[k]? = some o→Below A.heap.size A B→B.heap[k]? = some o:=fun {A B k o} hk hb=>(hb.block k (Array.getElem?_eq_some_iff.1 hk).1).trans hk
 refine(hseq (w.heap.size+1) (fun pre W=>I pre W∧W.heap[w.heap.size+1]? = some (.loop (rc .ready none))∧W.heap[w.heap.size]? = some (.deferred (some [])))
  (fun pre W=>∃ c,Ix c pre W∧W.heap[w.heap.size+1]? = some (.loop (rc .done (some c)))∧W.heap[w.heap.size]? = some (.deferred (some []))) Ws hbs
  (fun pre A B h hb=>⟨hIb _ _ _ h.1 hb,keepB h.2.1 hb,keepB h.2.2 hb⟩) ?_ ⟨hIs,hls,hds⟩).mono ?_
 ·rintro pre x W ⟨hi,hl,hd⟩ hx
  have hlt:w.heap.size+1<W.heap.size:=(Array.getElem?_eq_some_iff.1 hl).1
  refine⟨fn,_,assign,body,run_yield (P:=P) (args:=encs x) hl (hps x),roundIn_of_wpIn hfn (hassign _ x W _ ⟨_,run_beginRound hl rfl,?_⟩)⟩
  have hl2:(W.putObj (w.heap.size+1) (.loop (rc .busy none))).heap[w.heap.size+1]? = some (.loop (rc .busy none)):=World.putObj_heap_same hlt
  have hd2:(W.putObj (w.heap.size+1) (.loop (rc .busy none))).heap[w.heap.size]? = some (.deferred (some [])):=(World.putObj_heap_other (by omega)).trans hd
  have hk2:K W (W.putObj (w.heap.size+1) (.loop (rc .busy none))):=hKp _ _ _ _ (by omega) hl rfl
  have fin:∀ (j:Option Code) (V:World),KeepsFrom w.heap.size (W.putObj (w.heap.size+1) (.loop (rc .busy none))) V→∃ V',(Instr.endRound (w.heap.size+1) j).run P V=.ok (.bool j.isNone) V'∧V'=V.putObj (w.heap.size+1) (.loop (rc (if j.isNone then .ready else .done) j)) ∧
    V.heap[w.heap.size+1]? = some (.loop (rc .busy none))∧V'.heap[w.heap.size+1]? = some (.loop (rc (if j.isNone then .ready else .done) j))∧V'.heap[w.heap.size]? = some (.deferred (some [])):=fun j V hk=>by
   have hv:=hk.same _ _ (by omega) hl2 rfl
   exact⟨_,run_endRound (P:=P) j hv,rfl,hv,World.putObj_heap_same (Array.getElem?_eq_some_iff.1 hv).1,(World.putObj_heap_other (by omega)).trans (hk.same _ _ (Nat.le_refl _) hd2 rfl)⟩
  refine wpIn_mono (hbody _ pre x _ (hI _ _ _ _ _ (by omega) hl rfl hi) (hX _ _ _ _ _ _ (by omega) hl rfl hx)) ?_
  rintro e b V hp
  cases e with
  |normal=>
   obtain⟨p1,p2,p3⟩:=hp
   obtain⟨V',r1,rfl,r3,r4,r5⟩:=fin none V p1
   exact⟨_,_,r1,.inl ⟨rfl,hG _ _ _ p3,⟨hI _ _ _ _ _ (by omega) r3 rfl p3,r4,r5⟩,hKt (hKt hk2 p2) (hKp _ _ _ _ (by omega) r3 rfl)⟩⟩
  |ret=>
   obtain⟨p1,p2⟩:=hp
   obtain⟨V',r1,rfl,r3,r4,r5⟩:=fin (some .ret) V p1
   exact⟨_,_,r1,.inr ⟨rfl,.ret,hIx _ _ _ _ _ _ (by omega) r3 rfl p2,r4,r5⟩⟩
  |exit id=>
   obtain⟨p1,p2⟩:=hp
   obtain⟨V',r1,rfl,r3,r4,r5⟩:=fin (some (.exit id)) V p1
   exact⟨_,_,r1,.inr ⟨rfl,.exit id,hIx _ _ _ _ _ _ (by omega) r3 rfl p2,r4,r5⟩⟩
  |goto t=>
   obtain⟨p1,p2⟩:=hp
   obtain⟨V',r1,rfl,r3,r4,r5⟩:=fin (some (.goto t)) V p1
   exact⟨_,_,r1,.inr ⟨rfl,.goto t,hIx _ _ _ _ _ _ (by omega) r3 rfl p2,r4,r5⟩⟩
  |panic ch=>exact hp.elim
  |outgrown=>exact hp.elim
 ·rintro e W2 ⟨⟨v,rfl⟩,h⟩
  rcases h with⟨xs,hS,hi,hl,hd⟩|⟨pre,hSp,c,hi,hl,hd⟩
  ·exact⟨none,_,run_endLoop (P:=P) hl (fun h=>by cases h),hdone _ xs _ (Nat.le_refl _) hS (hI _ _ _ _ _ (by omega) hl rfl hi) ((World.putObj_heap_other (by omega)).trans hd)⟩
  ·exact⟨some c,_,run_endLoop (P:=P) hl (fun h=>by cases h),hstop _ c pre _ (Nat.le_refl _) hSp (hIx _ _ _ _ _ _ (by omega) hl rfl hi) ((World.putObj_heap_other (by omega)).trans hd)⟩
end
section
variable {F:Fence}{n:Nat}{P:Program}{ops:Array Oper}{rest:List Oper}{o:Oper}{a:Act}{Q:Exit→Act→World→Prop}{W:World}
theorem append_run {s x:Operand}{t t':TypeId}{Kc:Act→World→Prop}(hop:o.op=.call { callee := .builtin .append,args:=#[s,x],argTypes:=#[t,t'] })(h:Oper.wp P o a W Kc (fun _ _ _=>False)) :
  ∃ v w1,(execOp a.eval o).run P W=.ok (.value v) w1∧Kc (a.put o.dst v) w1:=by
 unfold Oper.wp at h
 have e:(execOp a.eval o).run P W=((Builtin.append_ #[t,t'] o.type #[a.eval s,a.eval x]).run P W).andThen fun v w1=>.ok (.value v) w1:=by
  simp [execOp,hop,resolve,invoke,builtin,Result.andThen]
 rw [e]at h ⊢
 cases hr:(Builtin.append_ #[t,t'] o.type #[a.eval s,a.eval x]).run P W with
 |ok v w1=>
  rw [hr]at h
  exact⟨v,w1,rfl,h⟩
 |halt p w1=>
  rw [hr]at h
  simp only [Result.andThen]at h
  cases p <;> exact h.elim
theorem append_in {s x:Operand}{t t':TypeId}{Kc:Act→World→Prop}(hgd:o.guard=none)(hop:o.op=.call { callee := .builtin .append,args:=#[s,x],argTypes:=#[t,t'] })(h:Oper.wp P o a W Kc (fun _ _ _=>False))
  (hK:∀ a' w1,Kc a' w1→wpListIn F n P ops Q rest a' w1):wpListIn F n P ops Q (o :: rest) a W:=by
 obtain⟨v,w1,hr,hk⟩:=append_run hop h
 refine wpListIn_plain hgd fun K hK'=>?_
 unfold Oper.wpIn
 refine⟨?_,?_⟩
 ·simp [Oper.about,hop,resolve,Target.leads,Sem.run_pure]
 ·rw [Oper.semAt_plain F _ _ (by rw [hop];intro c hc';cases hc'),hr]
  exact hK' _ _ (hK _ _ hk)
theorem bvk {n₀ : Nat}{A:World}{l:Nat}{o:Obj}(o':Obj)(hl:n₀ ≤ l)(h:A.heap[l]? = some o):Below n₀ A (A.putObj l o'):=
 (Below.refl n₀ A).grown (grownBy_putObj' A l o') (by have:=(Array.getElem?_eq_some_iff.1 h).1;omega) (fun k e=>by cases e;omega)
theorem bkq {B n₀ : Nat}{w:World}(h:n₀ ≤ B):bnk B (Below n₀ w):=fun A l o o' hl ho _ hb=>hb.trans (bvk o' (by omega) ho)
theorem bWz {B:Nat}{p:Addr}{v:Value}(h:p.block<B):bnk B (fun W=>W.cell? p=some v):=fun A l o o' hl ho _ hc=>(World.cell?_of_block (World.putObj_heap_other (by omega))).trans hc
theorem turns_and {B:Nat}{I J:World→Prop}(h:bnk B I)(k:bnk B J):bnk B (fun W=>I W∧J W):=fun A l o o' hl ho hc hh=>⟨h A l o o' hl ho hc hh.1,k A l o o' hl ho hc hh.2⟩
end
end Go.Proofs.YthggdomocichdaaGreatDoor.P
