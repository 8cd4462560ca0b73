/- Put together: Arr, Seg. -/
import Derived.Deep.WholeRow
import Derived.Laws.CopyOwn
import Derived.Test.YthggdomocichdaaGreatDoorZ4
import Derived.Laws.CopyRow
set_option linter.unusedVariables false
set_option linter.unusedSimpArgs false
namespace Go.Proofs.YthggdomocichdaaGreatDoor.P
open Go.RowKit Go.Proofs.YthggdomocichdaaGreatDoor.Kit Go.Proofs.YthggdomocichdaaGreatDoorW.PrintWords Go.Proofs.YthggdomocichdaaGreatDoorW.PrintLast Go.Proofs.YthggdomocichdaaGreatDoorW.PrintMore
def arrV (k:IntKind)(l:List Int):Array Value:=(l.map (Value.int k)).toArray
theorem aYz (k:IntKind)(l:List Int):(arrV k l).size=l.length:=by simp [arrV]
theorem arrV_at (k:IntKind){l:List Int}{i:Nat}(hi:i<l.length):(arrV k l)[i]? = some (.int k (rd l (i:Int))):=by
 simp [arrV,aUk,List.getD_eq_getElem?_getD,List.getElem?_eq_getElem hi]
theorem arrV_set (k:IntKind)(l:List Int)(i:Nat)(v:Int):(arrV k l).setIfInBounds i (.int k v)=arrV k (l.set i v):=by
 simp only [arrV,List.setIfInBounds_toArray]
 rw [List.map_set]
theorem arrV_one (k:IntKind)(l:List Int):(arrV k l).all (·.oneCell')=true:=by
 rw [Array.all_eq_true_iff_forall_mem]
 intro v hv
 obtain⟨n,_,rfl⟩:=List.mem_map.1 (by simpa [arrV]using hv)
 rfl
def Arr (W:World)(g:Nat)(t:TypeId)(k:IntKind)(l:List Int):Prop:=W.heap[g]? = some (.cells (arrV k l) t (0,0))
section
variable {W W1:World}{g t:Nat}{k:IntKind}{l:List Int}
theorem Arr.lt (h:Arr W g t k l):g<W.heap.size:=aQk h
theorem Arr.cell (h:Arr W g t k l){i:Nat}(hi:i<l.length):W.cell? ⟨g,i,none⟩=some (.int k (rd l (i:Int))):=(aak h i).trans (arrV_at k hi)
theorem Arr.froz (h:Arr W g t k l)(i:Nat):W.frozen? ⟨g,i,none⟩=false:=afk h i
theorem Arr.put (h:Arr W g t k l)(i:Nat)(v:Int):Arr (W.setCell ⟨g,i,none⟩ (.int k v)) g t k (l.set i v):=anq h i _ (arrV_set k l i v)
theorem Arr.below (h:Arr W g t k l)(hb:Below W.heap.size W W1):Arr W1 g t k l:=agz h hb
theorem Arr.far (h:Arr W g t k l){p:Addr}(hp:g≠p.block)(u:Value):Arr (W.setCell p u) g t k l:=blk_far h hp u
theorem Arr.alloc (h:Arr W g t k l)(o:Obj):Arr (W.alloc o) g t k l:=aok h o
theorem Arr.drew (h:Arr W g t k l):Arr W.drew g t k l:=h
theorem Arr.drewN (h:Arr W g t k l)(n:Nat):Arr (W.drewN n) g t k l:=h
theorem Arr.load {P:Program}(h:Arr W g t k l){n:Nat}{e:TypeId}(hu:P.underlying t=some (.array n e))(hi:(P.info? t).map (·.size)=some l.length) :
  (Instr.loadAt t (.pointer (some ⟨g,0,none⟩))).run P W=.ok (.agg (arrV k l)) W:=by
 simp only [Instr.loadAt,Instr.sureAddr,Sem.run_bind,Sem.run_pure,Result.andThen]
 exact run_loadVar_row W g t t (arrV k l) (0,0) _ h hu rfl (by rw [aYz];exact hi)
theorem Arr.result {P:Program}{fn:Func}{p:Tmp}(hr:fn.results=#[.cell p t])(tmps:Array Value)(h:Arr W g t k l)(hp:tmps.getD p undef=.pointer (some ⟨g,0,none⟩)){n:Nat}{e:TypeId}(hu:P.underlying t=some (.array n e))(hi:(P.info? t).map (·.size)=some l.length) :
  (results fn tmps).run P W=.ok (.agg (arrV k l)) W:=results_cell_row hr tmps W g t (arrV k l) (0,0) _ hp h hu rfl (by rw [aYz];exact hi)
theorem Arr.storeAt {P:Program}{l':List Int}(h:Arr W g t k l)(hi:(P.info? t).map (·.size)=some l'.length)(hl:l.length=l'.length) :
  (Instr.storeAt t (.pointer (some ⟨g,0,none⟩)) (.agg (arrV k l'))).run P W=.ok () (W.setRow g (arrV k l')):=by
 simp only [Instr.storeAt,Instr.sureAddr,Sem.run_bind,Sem.run_pure,Result.andThen]
 exact run_storeVar_row W g t t (arrV k l) (arrV k l') h (by rw [aYz];exact hi) (by rw [aYz,aYz];exact hl) (arrV_one k l')
theorem Arr.row (h:Arr W g t k l)(l':List Int):Arr (W.setRow g (arrV k l')) g t k l':=by
 unfold Arr World.setRow
 simp [Array.getElem?_modify,show W.heap[g]? = _ from h]
end
theorem Arr.aTz {W:World}{g g' t:Nat}{k:IntKind}{l:List Int}(h:Arr W g t k l)(hne:g≠g')(c:Array Value):Arr (W.setRow g' c) g t k l:=by
 unfold Arr World.setRow
 have:¬ g'=g:=fun e=>hne e.symm
 simp [Array.getElem?_modify,this,show W.heap[g]? = _ from h]
theorem anz {w W:World}{g:Nat}{c:Array Value}(h:Below w.heap.size w W)(hg:w.heap.size≤g):Below w.heap.size w (W.setRow g c):=below_setRow h hg c
theorem arq {P:Program}{ops:Array Oper}{rest:List Oper}{o:Oper}{a:Act}{Q:Exit→Act→World→Prop}{w:World}{g:Nat}{k:IntKind}{l l':List Int}(t:TypeId)(p x:Operand)(ho:o.op=.store t p x)(hgd:o.guard=none)(hN:o.dst=none)
  (haddr:a.eval p=.pointer (some ⟨g,0,none⟩)) (hx:a.eval x=.agg (arrV k l')) (h:Arr w g t k l) (hi:(P.info? t).map (·.size)=some l'.length) (hl:l.length=l'.length)
  (hq:wpList P ops Q rest a (w.setRow g (arrV k l'))):wpList P ops Q (o :: rest) a w:=by
 refine wpList_plain hgd fun K hK=>?_
 have hrun:=h.storeAt (P:=P) hi hl
 unfold Oper.wp execOp
 simp only [ho,haddr,hx,Sem.run_bind,Sem.run_pure,Result.andThen_ok,hrun]
 show K (a.put o.dst undef) _
 rw [hN]
 exact hK a _ hq
theorem store_any {P:Program}{ops:Array Oper}{rest:List Oper}{o:Oper}{a:Act}{Q:Exit→Act→World→Prop}{w w':World}(t:TypeId)(p x:Operand)(pv xv:Value)(ho:o.op=.store t p x)(hgd:o.guard=none)(hN:o.dst=none)
  (haddr:a.eval p=pv) (hx:a.eval x=xv) (hrun:(Instr.storeAt t pv xv).run P w=.ok () w')
  (hq:wpList P ops Q rest a w'):wpList P ops Q (o :: rest) a w:=by
 refine wpList_plain hgd fun K hK=>?_
 unfold Oper.wp execOp
 simp only [ho,haddr,hx,Sem.run_bind,Sem.run_pure,Result.andThen_ok,hrun]
 show K (a.put o.dst undef) _
 rw [hN]
 exact hK a _ hq
theorem load_any {P:Program}{ops:Array Oper}{rest:List Oper}{o:Oper}{a:Act}{Q:Exit→Act→World→Prop}{w:World}(t:TypeId)(p:Operand)(pv v:Value)(ho:o.op=.load t p)(hgd:o.guard=none)
  (haddr:a.eval p=pv) (hrun:(Instr.loadAt t pv).run P w=.ok v w)
  (hq:wpList P ops Q rest (a.put o.dst v) w):wpList P ops Q (o :: rest) a w:=by
 refine wpList_plain hgd fun K hK=>?_
 unfold Oper.wp execOp
 simp only [ho,haddr,Sem.run_bind,Sem.run_pure,Result.andThen_ok,hrun]
 exact hK _ _ hq
theorem ayk {P:Program}{ops:Array Oper}{rest:List Oper}{o:Oper}{a:Act}{Q:Exit→Act→World→Prop}{w:World}{g:Nat}{k:IntKind}{l:List Int}(t:TypeId)(p:Operand)(ho:o.op=.load t p)(hgd:o.guard=none)
  (haddr:a.eval p=.pointer (some ⟨g,0,none⟩)) (h:Arr w g t k l) {n:Nat} {e:TypeId} (hu:P.underlying t=some (.array n e)) (hi:(P.info? t).map (·.size)=some l.length)
  (hq:wpList P ops Q rest (a.put o.dst (.agg (arrV k l))) w):wpList P ops Q (o :: rest) a w:=by
 refine wpList_plain hgd fun K hK=>?_
 have hrun:=h.load (P:=P) hu hi
 unfold Oper.wp execOp
 simp only [ho,haddr,Sem.run_bind,Sem.run_pure,Result.andThen_ok,hrun]
 exact hK _ _ hq
theorem aSq {P:Program}{o:Oper}{a:Act}{w w':World}(t:TypeId)(p x:Operand)(pv xv:Value)(ho:o.op=.store t p x)(haddr:a.eval p=pv)(hx:a.eval x=xv)(hrun:(Instr.storeAt t pv xv).run P w=.ok () w'):(execOp a.eval o).run P w=.ok .skip w':=by
 unfold execOp
 simp only [ho,haddr,hx,Sem.run_bind,Sem.run_pure,Result.andThen_ok,hrun]
theorem a3q {P:Program}{o:Oper}{a:Act}{w:World}{v:Value}(t:TypeId)(p:Operand)(pv:Value)(ho:o.op=.load t p)(haddr:a.eval p=pv)(hrun:(Instr.loadAt t pv).run P w=.ok v w):(execOp a.eval o).run P w=.ok (.value v) w:=by
 unfold execOp
 simp only [ho,haddr,Sem.run_bind,Sem.run_pure,Result.andThen_ok,hrun]
theorem btk (W:World)(g:Nat)(c:Array Value):alk W (W.setRow g c) g none:=⟨by simp [World.setRow],fun j _ h4 _=>by
 have:¬ g=j:=fun e=>h4 e.symm
 simp [World.setRow,Array.getElem?_modify,this]⟩
theorem a0z (W:World)(g i:Nat)(u:Value):alk W (W.setCell ⟨g,i,none⟩ u) g none:=⟨by simp [World.setCell],fun j _ h4 _=>Below.heap_setCell W ⟨g,i,none⟩ u j h4⟩
theorem azz {a b c:World}{g:Nat}(h1:alk a b g none)(h2:alk b c g none):alk a c g none:=⟨Nat.le_trans h1.1 h2.1,fun i hi h3 h4=>(h2.2 i (Nat.lt_of_lt_of_le hi h1.1) h3 h4).trans (h1.2 i hi h3 h4)⟩
theorem byk {w w':World}{g:Nat}(hb:Below w.heap.size w w'):alk w w' g none:=⟨hb.size,fun i hi _ _=>hb.block i hi⟩
theorem buz (w:World)(g:Nat):alk w w g none:=⟨Nat.le_refl _,fun _ _ _ _=>rfl⟩
section
variable {P:Program}
theorem addr_add (g o j:Nat):(⟨g,o,none⟩:Addr).add j=⟨g,o+j,none⟩:=by unfold Addr.add;split <;> simp_all
theorem load_seg (w:World)(g o:Nat)(ty:TypeId)(cs:List Value)(d:TypeDesc)(hc:∀ j v,cs[j]? = some v→w.cell? ⟨g,o+j,none⟩=some v)
  (hu:P.underlying ty=some d) (hd:(match d with | .struct _ | .array _ _=>true | _=>false)=true) (hi:(P.info? ty).map (·.size)=some cs.length) :
  (Instr.loadAt ty (.pointer (some ⟨g,o,none⟩))).run P w=.ok (.agg cs.toArray) w:=by
 have hl:(loadCells ⟨g,o,none⟩ cs.length).run P w=.ok cs.toArray w:=
  run_loadCells_list (P:=P) w ⟨g,o,none⟩ cs (fun j v hv=>by rw [addr_add];exact hc j v hv)
 simp only [Instr.loadAt,Instr.sureAddr,Sem.run_bind,Sem.run_pure,Result.andThen]
 cases hq:P.info? ty with
 |none=>simp [hq]at hi
 |some i=>
  have hs:i.size=cs.length:=by simpa [hq]using hi
  have hagg:(isAgg ty).run P w=.ok true w:=by
   unfold isAgg
   rw [Sem.run_bind,run_underlying hu w]
   cases d <;> simp_all
  simp [loadVar,Sem.run_bind,hagg,sizeOf,typeInfo,hq,hs,hl]
theorem store_seg (w:World)(g o:Nat)(t ty:TypeId)(old:Array Value)(cs:List Value)(hg:w.heap[g]? = some (.cells old t (0,0)))(hi:(P.info? ty).map (·.size)=some cs.length)
  (ho:o+cs.length≤old.size) (h1:∀ v∈cs,v.oneCell'=true) :
  (Instr.storeAt ty (.pointer (some ⟨g,o,none⟩)) (.agg cs.toArray)).run P w=.ok () (w.setRow g (old.toList.take o++cs++old.toList.drop (o+cs.length)).toArray):=by
 have:=run_storeCells_at P g o t cs 0 old w hg (by simpa using ho) h1
 simp only [Instr.storeAt,Instr.sureAddr,Sem.run_bind,Sem.run_pure,Result.andThen]
 cases hq:P.info? ty with
 |none=>simp [hq]at hi
 |some i=>
  have hs:i.size=cs.length:=by simpa [hq]using hi
  simpa [storeVar,sizeOf,typeInfo,hq,Value.cells,hs]using this
end
end Go.Proofs.YthggdomocichdaaGreatDoor.P
