/- Operations that make memory, read it, write it. -/
import Derived.Test.YtackjebfmbnkbaaGreatDoorP01
import Derived.IntWalk
import Derived.Laws.StructEq
import Derived.Laws.Shifts
import Derived.Great.BuildSlice
set_option linter.unusedSimpArgs false
set_option linter.unusedVariables false
set_option linter.unusedSectionVars false
section
namespace Go.Aw
variable [GL]
variable {P:Program} {C:Ctx} {V:View} {a:Act} {w:World} {fz:Fz} {ρ:Ren} {o:Oper} {Q:Exit->Act->World->Prop}
theorem Holds.one {x:AV} {v:Value} (h:Holds fz x ρ v) (A:bHI x=true):v.oneCell'=true:=by cases x<;>simp only[bHI,Bool.false_eq_true]at A<;>simp only[Holds]at h;{subst h;exact A};{obtain⟨a,c,rfl,_⟩:=h;rfl};{obtain⟨a,rfl,_⟩:=h;rfl};{obtain⟨a,c,rfl,_⟩:=h;rfl};{obtain⟨b,o,rfl,_⟩:=h;rfl};{obtain⟨c,_,rfl⟩:=h;rfl};{obtain⟨c,_,rfl⟩:=h;rfl};{obtain⟨c,_,rfl⟩:=h;rfl};{rcases h with⟨rfl,_⟩|⟨c,es,clock,rfl,_⟩<;>rfl};{rcases h with⟨rfl,_⟩|⟨c,es,clock,rfl,_⟩<;>rfl};{obtain⟨c,rfl,_⟩:=h;exact cGD _ _};{obtain⟨c,rfl,_⟩:=h;rfl}
theorem aIU {v:Value} (h:v.oneCell'=true):v.cells= #[v]:=by cases v<;>simp_all [Value.oneCell',Value.cells]
theorem HoldsL.one {l:List AV} {vs:List Value} (h:HoldsL fz l ρ vs) (A:l.all bHI=true):∀u∈vs,u.oneCell'=true:=by induction l generalizing vs with|nil=>simp_all [HoldsL]|cons x l D=>simp only[HoldsL]at h;obtain⟨v,r,rfl,h1,E⟩:=h;simp only[List.all_cons,Bool.and_eq_true]at A;intro u hu;cases List.mem_cons.1 hu with|inl e=>subst e;exact h1.one A.1|inr e=>grind
theorem vY {x:AV} {v:Value} {l:List AV} (h:Holds fz x ρ v) (D:cellsOf x=some l):HoldsL fz l ρ v.cells.toList/\ ∀u∈v.cells.toList,u.oneCell'=true:=by
 have plain:∀y:AV,Holds fz y ρ v->bHI y=true->HoldsL fz [y] ρ v.cells.toList/\ ∀u∈v.cells.toList,u.oneCell'=true:=by intro y E G;have h1:=E.one G;rw[aIU h1];refine⟨by simp only[HoldsL];exact⟨v,[],rfl,E,rfl⟩,by simpa using h1⟩
 unfold cellsOf at D;split at D;{rename_i I;split at D;{rename_i A;cases D;simp only[Holds]at h;obtain⟨cs,rfl,h⟩:=h;exact⟨h,h.one A⟩};{cases D}};{rename_i cs;split at D;{rename_i A;cases D;simp only[Holds]at h;subst h;exact⟨HoldsL.vals _,fun u hu=>List.all_eq_true.1 A u hu⟩};{cases D}};grind
theorem aNF (cs:List AV) (j:Nat):aG ((cs.map Aw.dem).getD j .unk)=false:=by rw[List.getD_eq_getElem?_getD,List.getElem?_map];cases cs[j]? with|none=>rfl|some x=>exact cV x
theorem aNE (cs:List Value) (j:Nat):aG ((cs.map AV.val).getD j .unk)=false:=by rw[List.getD_eq_getElem?_getD,List.getElem?_map];cases cs[j]? <;>rfl
theorem aZX {l:List Nat} {b:Nat} {k:Blk} (h:V.filt l b=some k):V.hp b=some k:=by simp_all [View.filt]
theorem aBW (h:SimE C V a w fz ρ) {g:Nat->Option Blk} {out:Nat->AV} {k:Blk} {ob:Prop} {I:Eff} (K:∀d,o.dst=some d->g d=V.hp d) (he:aUM o.dst g out k ob=some I) (E:∀i,o.dst=some i->i<C.N) {ob':Obj} {v:Value} (L:(execOp a.eval o).run P w=.ok (.value v) (w.alloc ob')) (hk:BlkAt fz ρ (w.alloc ob') w.heap.size k) (D:∀j,aG (k.at j)=false) (M:∀d,Holds fz (out d) (Ren.set ρ d w.heap.size) v) (G:∀d,aG (out d)=false):cI P C V a w o I:=by
 intro Q;simp only[aUM]at he;cases A:o.dst with
 |none=>simp_all
 |some d=>
  rw[A]at he
  simp only at he
  rw[K d A]at he
  cases J:V.hp d with
   |some O=>simp_all
   |none=>
    rw[J]at he
    simp only[Option.some.injEq]at he
    subst he
    refine cP L ⟨fz,Ren.set ρ d w.heap.size,?_⟩
    have h1:=h.newBlk (h.hi d (.inl (E d A))) (h.brd (E d A)) J (Ext.alloc w ob') hk D
    rw[A]
    exact h1.put (E d A) (M d) (G d)
theorem nA {e:TypeId} {i:TypeInfo} {z:Value} (hi:P.info? e=some i) (A:i.zero=some z) (w:World):(zeroValue e).run P w=.ok z w:=by simp[zeroValue,typeInfo,hi,A]
theorem aPN {e:TypeId} {z:List Value} (h:bFG P e=some z):∃i A,P.info? e=some i/\i.zero=some A/\A.cells.toList=z:=by simp only[bFG]at h;cases hi:P.info? e with|none=>simp_all|some i=>simp_all
theorem bGK (h:SimE C V a w fz ρ) {e:TypeId} {z:List Value} (D:o.op=.alloc e) (J:bFG P e=some z) {g:Nat->Option Blk} {G:Eff} (K:∀d,o.dst=some d->g d=V.hp d) (A:z.all Value.oneCell'=true) (he:aUM o.dst g (fun d=>.ptr d 0) (.cells e (z.map .val)) True=some G) (L:∀i,o.dst=some i->i<C.N):cI P C V a w o G:=by obtain⟨i,I,hi,E,rfl⟩:=aPN J;refine aBW h (ob':=.cells I.cells e) (v:=.pointer (some ⟨w.heap.size,0,none⟩)) K he L ?_ ?_ (aNE _) (fun d=>?_) (fun _=>rfl);{simp[execOp,D,Instr.alloc,nA hi E,newVar,newRow]};{exact⟨I.cells,heap_alloc_new w _,HoldsL.vals _,fun u hu=>List.all_eq_true.1 A u hu⟩};simp[Holds,Ren.set]
theorem bUL (h:SimE C V a w fz ρ) {e:TypeId} {x:Operand} (A:o.op=.box e x) {g:Nat->Option Blk} {D:Eff} (G:∀d,o.dst=some d->g d=V.hp d) (he:cMG o.dst e g [V.ev x]=some D) (I:∀i,o.dst=some i->i<C.N):cI P C V a w o D:=by
 simp only[cMG]at he;cases E:cellsOf (V.ev x)with
 |none=>simp_all
 |some cs=>
  rw[E]at he
  simp only at he
  obtain⟨h1,J⟩:=vY (h.ev x) E
  refine aBW h (ob':=.cells (a.eval x).cells e) (v:=.pointer (some ⟨w.heap.size,0,none⟩)) G he I ?_ ?_ (aNF _) (fun d=>?_) (fun _=>rfl)
  ·simp[execOp,A,Instr.box,newVar,newRow]
  ·exact⟨_,heap_alloc_new w _,h1.dem,J⟩
  simp[Holds,Ren.set]
theorem bGG (h:SimE C V a w fz ρ) {t:TypeId} {r:Option Operand} (A:o.op=.makeMap t r) {J e:TypeId} (K:P.underlying t=some (.map J e)) {g:Nat->Option Blk} {E:Eff} (L:∀d,o.dst=some d->g d=V.hp d) (he:aGA o.dst g (r.toList.map V.ev)=some E) (M:∀i,o.dst=some i->i<C.N):cI P C V a w o E:=by
 have I:(execOp a.eval o).run P w=.ok (.value (.map (some w.heap.size))) (w.alloc (.map #[] 0))/\aUM o.dst g (fun d=>.mapr d) (.map [] []) True=some E:=by cases r with|none=>exact⟨by simp[execOp,A,Instr.makeMap],by simpa[aGA]using he⟩|some x=>have G:=h.ev x;simp only[Option.toList_some,List.map_cons,List.map_nil]at he;cases D:V.ev x with|val v=>(rw[D]at he G;simp only[Holds]at G;cases v with|int k n=>refine⟨?_,by simpa[aGA]using he⟩;simp[execOp,A,Instr.makeMap,G,run_underlying K,asInt,asIntOf]|_=>simp[aGA]at he)|_=>rw[D]at he;simp[aGA]at he
 refine aBW h (ob':=.map #[] 0) (v:=.map (some w.heap.size)) L I.2 M I.1 ?_ (fun j=>by simp[Blk.at,aG]) (fun d=>?_) (fun _=>rfl);{exact⟨#[],0,heap_alloc_new w _,by simp,by simp[HoldsL],by simp,by simp⟩};simp[Holds,Ren.set]
theorem aPK:Array.range 0= #[]:=Array.eq_empty_of_size_eq_zero (by simp)
theorem kH (z:Array Value) (c:Nat):(((Array.range (c*z.size)).map (fun i=>z[i% z.size]!)).toList)=(List.replicate c z.toList).flatten:=by induction c with|zero=>simp|succ c D=>rw[List.replicate_succ',List.flatten_append,<-D];simp only[Array.toList_map,Array.toList_range,List.flatten_cons,List.flatten_nil,List.append_nil];rw[show(c+1)*z.size=c*z.size+z.size from by rw[Nat.add_mul];omega,List.range_add,List.map_append,List.map_map];congr 1;apply List.ext_getElem?;intro j;by_cases A:j<z.size;{have hm:(c*z.size+j)% z.size=j:=(by rw[Nat.mul_comm,Nat.mul_add_mod];exact Nat.mod_eq_of_lt A);simp[A,hm]};{simp[A]}
theorem iW {α β:Type} (f:α->β) (l:List α) (n:Nat):(List.replicate n (l.map f)).flatten=(List.replicate n l).flatten.map f:=by simp
theorem bLM (h:SimE C V a w fz ρ) {t:TypeId} {x y:Operand} (A:o.op=.makeSlice t x y) {e:TypeId} {i:TypeInfo} {z:Value} (ht:P.underlying t=some (.slice e)) (hi:P.info? e=some i) (hz:i.zero=some z) {g:Nat->Option Blk} {W:Eff} (hg:∀d,o.dst=some d->g d=V.hp d) (he:bSM o.dst e i.size i.bytes z.cells.toList g [V.ev x,V.ev y]=some W) (Y:W.ob) (hd:∀i,o.dst=some i->i<C.N):cI P C V a w o W:=by have S:=h.ev x;have U:=h.ev y;unfold bSM at he;split at he;{rename_i l c heq;simp only[List.cons.injEq,and_true]at heq;rw[heq.1]at S;rw[heq.2]at U;simp only[Holds]at S U;split at he;{rename_i hc;obtain⟨aj,Z,D⟩:=hc;have E:0<=l/\l<=c/\c*i.bytes<=140737488355328/\c<=4611686018427387904:=(by simp only[aUM]at he;split at he;{split at he;{cases he;exact Y};{cases he}};{cases he});obtain⟨h0,ak,hb,al⟩:=E;have G:IntKind.i64.wrap l=l:=IntWalk.i64_in l (by omega);have I:IntKind.i64.wrap c=c:=IntWalk.i64_in c (by omega);have J:z.cells.size=i.size:=(by simpa using Z);refine aBW h (ob':=.cells ((Array.range (c.toNat*i.size)).map (fun j=>z.cells[j% z.cells.size]!)) e) (v:=.slice (some ⟨w.heap.size,0,none⟩) l.toNat c.toNat) hg he hd ?_ ?_ ?_ (fun d=>?_) (fun _=>rfl);{have K:¬c<0:=(by omega);have L:¬ (281474976710656<(i.bytes:Int)*c):=(by rw[Int.mul_comm];omega);have M:¬l<0:=(by omega);have O:¬c<l:=(by omega);by_cases hn:c.toNat*i.size=0;{have aa:c.toNat=0:=(by rcases Nat.mul_eq_zero.1 hn with h|h;{exact h};{omega});simp[execOp,A,Instr.makeSlice,S,U,run_underlying ht,typeInfo,hi,asInt,asIntOf,G,I,K,L,M,O,sizeOf,newRow,aa,aPK]};{simp[execOp,A,Instr.makeSlice,S,U,run_underlying ht,typeInfo,hi,asInt,asIntOf,G,I,K,L,M,O,sizeOf,newRow,hn,nA hi hz]}};{refine⟨_,heap_alloc_new w _,?_,?_⟩;{rw[<-J,kH z.cells c.toNat,iW];exact HoldsL.vals _};{intro u hu;rw[<-J,kH z.cells c.toNat]at hu;obtain⟨l',ab,ac⟩:=List.mem_flatten.1 hu;have:=List.eq_of_mem_replicate ab;subst this;exact List.all_eq_true.1 D u ac}};{intro j;rw[iW];exact aNE _ j};{simp only[Holds];exact⟨w.heap.size,by simp[Ren.set],rfl⟩}};{cases he}};{cases he}
end Go.Aw
end
section
namespace Go.Aw
variable [GL]
variable {P:Program} {C:Ctx} {V:View} {a:Act} {w:World} {fz:Fz} {ρ:Ren} {o:Oper} {Q:Exit->Act->World->Prop}
def bFF (w:World) (c o:Nat) (vs:List Value):Prop:=∀j v,vs[j]? =some v->w.cell? ⟨c,o+j,none⟩=some v
theorem HoldsC.list {fz:Fz}:∀ (l:List AV) (b o:Nat),HoldsC fz l b o-> ∃vs,HoldsL fz l bT vs/\(∀ (j:Nat) (v:Value),vs[j]? =some v->fz.cell b (o+j)=some v)/\ ∀v∈vs,v.oneCell'=true|[],_,_,_=>⟨[],by rfl,by simp,by simp⟩|x::xs,b,o,h=>by simp only[HoldsC]at h;obtain⟨⟨u,hu,h1,I⟩,J⟩:=h;obtain⟨vs,D,E,G⟩:=HoldsC.list xs b (o+1) J;refine⟨u::vs,by simp only[HoldsL];exact⟨u,vs,rfl,I,D⟩,fun j v A=>?_,fun v K=>?_⟩;{cases j with|zero=>simp at A;subst A;exact hu|succ j=>simp at A;rw[show o+(j+1)=o+1+j from by omega];exact E j v A};{cases List.mem_cons.1 K with|inl e=>subst e;exact h1|inr e=>exact G v e}
theorem mK {t:TypeId} {A:Bool} (h:nU P t=some A) (w:World):(isAgg t).run P w=.ok A w:=by simp only[nU]at h;cases hu:P.underlying t with|none=>simp_all|some d=>rw[hu]at h;cases d<;>simp at h<;>subst h<;>simp[isAgg,run_underlying hu]
theorem qW {t:TypeId} {n:Nat} (h:qD P t=some n) (w:World):(sizeOf t).run P w=.ok n w:=by simp only[qD]at h;cases hi:P.info? t with|none=>simp_all|some i=>simp_all [sizeOf,typeInfo]
theorem xQ (c o j:Nat):(⟨c,o,none⟩:Addr).add j=⟨c,o+j,none⟩:=by simp[Addr.add]
theorem wP {n off:Nat} {A:Bool} {l:List AV} {y:AV} (h:wQ n A off l=some y):aG y=false:=by simp only[wQ]at h;split at h;{split at h;{cases h;rfl};{cases h}};grind [cV]
theorem tH {t:TypeId} {I:Bool} {n:Nat} (E:nU P t=some I) (S:qD P t=some n) {c o off:Nat} {vs:List Value} (M:bFF w c o vs) {l:List AV} {ρ':Ren} (J:HoldsL fz l ρ' vs) {y:AV} (A:wQ n I off l=some y):∃v,(loadVar t ⟨c,o+off,none⟩).run P w=.ok v w/\Holds fz y ρ' v:=by
 simp only[wQ]at A;cases I with
 |true=>
  simp only[if_true]at A
  split at A
  ·rename_i U
   cases A
   have hlen:=J.len
   have K:=(J.drop off).take n
   have L:((vs.drop off).take n).length=n:=by simp;omega
   have D:=run_loadCells_list (P:=P) w ⟨c,o+off,none⟩ ((vs.drop off).take n) (fun j v G=>by
    rw[xQ]
    have:(vs.drop off)[j]? =some v:=by
     rw[List.getElem?_take]at G
     split at G
     ·exact G
     ·cases G
    rw[List.getElem?_drop]at this
    have:=M (off+j) v this
    rwa [<-Nat.add_assoc]at this)
   rw[L]at D
   refine⟨.agg ((vs.drop off).take n).toArray,?_,?_⟩
   ·simp[loadVar,mK E,qW S,D]
   ·simp only[Holds];exact⟨_,rfl,by simpa using K.dem⟩
  ·cases A
 |false=>
  simp only[Bool.false_eq_true,if_false]at A
  cases O:l[off]? with
   |none=>simp_all
   |some x=>
    rw[O]at A;simp at A;subst A
    obtain⟨v,W,Y⟩:=J.get _ _ _ off x O
    refine⟨v,?_,Y.dem⟩
    simp[loadVar,mK E,M off v W]
theorem aDT {c:Nat} {cur:Array Value} {e:TypeId} {A:Nat×Nat} (h:w.heap[c]? =some (.cells cur e A)):bFF w c 0 cur.toList:=by intro j v D;simp_all [World.cell?,Nat.zero_add,Option.isSome_none,Bool.false_eq_true,if_false]
theorem bLN (h:SimE C V a w fz ρ) {t:TypeId} {x:Operand} (J:o.op=.load t x) {ag:Bool} {n:Nat} (K:nU P t=some ag) (hn:qD P t=some n) {tk:Bool} {g:Nat->Option Blk} (hg:∀b k,g b=some k->V.hp b=some k) {ef:Eff} (he:bBG n ag tk g [V.ev x]=some ef) (hd:∀i,o.dst=some i->i<C.N):cI P C V a w o ef:=by
 have S:=h.ev x;unfold bBG at he;split at he
 ·rename_i b off heq;simp only[List.cons.injEq,and_true]at heq;rw[heq]at S;simp only[Holds]at S;obtain⟨c,W,hv⟩:=S;split at he
  ·rename_i e cs ah;have hb:=hg _ _ ah;obtain⟨c',Y,_,⟨cur,G,hl,ap⟩,_⟩:=h.hp _ _ hb;rw[W]at Y;cases Y;have D:=aDT G;cases tk with
    |false=>simp only[Bool.false_eq_true,if_false]at he;split at he;{rename_i y E;cases he;obtain⟨v,U,Z⟩:=tH (w:=w) K hn D hl E;refine aF h ?_ hd Z (wP E);rw[Nat.zero_add]at U;simp[execOp,J,Instr.loadAt,Instr.sureAddr,hv,U]};{cases he}
    |true=>
     simp only[if_true]at he;split at he
     ·rename_i y E;split at he;{cases he}
      ·rename_i aa;have L:ag=false:=(by simpa using aa);subst L;cases he;obtain⟨u,hu,Z⟩:=hl.get _ _ _ off y E;have M:w.cell? ⟨c,off,none⟩=some u:=(by simpa using D off u hu);have U:(execOp a.eval o).run P w=.ok (.value u) w:=(by simp[execOp,J,Instr.loadAt,Instr.sureAddr,hv,loadVar,mK K,M]);intro Q;refine cP U ⟨fz,ρ,?_⟩;have O:V.at (.c b off)=y:=(by simp[View.at,hb,Blk.at,E]);have A:bM a w ρ (.c b off)=u:=(by have:cur[off]? =some u:=(by simpa using hu);simp[bM,W,cQ,G,this]);have ab:V.hasPl (.c b off):=⟨_,hb,by simp only[Blk.len];exact(List.getElem?_eq_some_iff.1 E).1⟩
       cases ac:o.dst with|none=>have:=h.demote ab;exact this|some d=>have:=h.take ab (d:=d) (hd d ac) (by intro e;cases e) (by rw[O,A];exact Z);rw[A]at this;rw[O]at this;simp only[View.app,View.demP,View.setBO,View.putO];rw[O];exact this
     {cases he}
  {cases he}
 {rename_i wd rows i k heq;simp only[List.cons.injEq,and_true]at heq;rw[heq]at S;simp only[Holds]at S;obtain⟨b,oo,hv,hR⟩:=S;split at he;{rename_i r U;split at he;{rename_i y E;cases he;obtain⟨_,hC⟩:=hR.get _ _ _ _ i r U;obtain⟨vs,aj,ak,_⟩:=HoldsC.list _ _ _ hC;have D:bFF w b (oo+i*wd) vs:=fun j v hj=>h.fcell _ _ _ (ak j v hj);obtain⟨v,I,Z⟩:=tH (w:=w) K hn D aj E;refine aF h ?_ hd (Z.mono (Fz.le_refl _) _ _ _ _ (aAQ _)) (wP E);rw[Nat.add_assoc]at I;simp[execOp,J,Instr.loadAt,Instr.sureAddr,hv,I]};{cases he}};{cases he}};{cases he}
theorem bH {n:Int} (A: -9223372036854775808<=n) (h1:n<=9223372036854775807):IntKind.i64.wrap n=n:=IntWalk.i64_in n (by omega)
theorem cBB (h:SimE C V a w fz ρ) {op:UnOp} {t:TypeId} {x:Operand} (A:o.op=.unOp op t x) {G:Eff} (he:aUn op [V.ev x]=some G) (E:∀i,o.dst=some i->i<C.N):cI P C V a w o G:=by have D:=h.ev x;unfold aUn at he;split at he;{rename_i b heq;simp only[List.cons.injEq,and_true]at heq;rw[heq]at D;simp only[Holds]at D;cases op<;>simp at he;subst he;exact aF h (v:=.bool !b) (by simp[execOp,A,Op.unary,D]) E (by simp only[Holds]) rfl};{rename_i k n heq;simp only[List.cons.injEq,and_true]at heq;rw[heq]at D;simp only[Holds]at D;cases op<;>simp at he;{subst he;exact aF h (v:=.int k (k.wrap (-n))) (by simp[execOp,A,Op.unary,Op.intArith,D]) E (by simp only[Holds]) rfl};{subst he;exact aF h (v:=.int k (bEI k n)) (by simp[execOp,A,Op.unary,Op.intBits,D,bEI,aVJ]) E (by simp only[Holds]) rfl}};{cases he}
theorem bLS (h:SimE C V a w fz ρ) {s t:TypeId} {x:Operand} (A:o.op=.convert s t x) {k k0:IntKind} (G:P.underlying s=some (.int k0)) (I:P.underlying t=some (.int k)) {E:Eff} (he:bSS k [V.ev x]=some E) (J:∀i,o.dst=some i->i<C.N):cI P C V a w o E:=by have D:=h.ev x;unfold bSS at he;split at he;{rename_i K n heq;simp only[List.cons.injEq,and_true]at heq;rw[heq]at D;simp only[Holds]at D;cases he;exact aF h (v:=.int k (k.wrap n)) (by simp[execOp,A,convert,run_underlying G,run_underlying I,Conv.intToInt,D]) J (by simp only[Holds]) rfl};{cases he}
theorem bUB (h:SimE C V a w fz ρ) {fn:FuncId} {A:Array Operand} (D:o.op=.makeFunc (.func fn) #[] A) (E:∀i,o.dst=some i->i<C.N):cI P C V a w o {out:=.clo (.func fn) (A.toList.map V.ev)}:=by refine aF h (v:=.func (.func fn) #[] (A.map a.eval)) (by simp[execOp,D,Instr.makeFunc]) E ?_ rfl;simp only[Holds];exact⟨A.map a.eval,rfl,by simpa using h.evL A.toList⟩
theorem bUC (h:SimE C V a w fz ρ) {fn:FuncId} {first:Array Operand} {D:String} (A:o.op=.makeFunc (.func fn) first #[]) (E:∀i,o.dst=some i->i<C.N):cI P C V a w o {out:=.clo (.methodOf fn D) (first.toList.map V.ev)}:=by refine aF h (v:=.func (.func fn) (first.map a.eval) #[]) (by simp[execOp,A,Instr.makeFunc]) E ?_ rfl;simp only[Holds];exact⟨first.map a.eval,rfl,by simpa using h.evL first.toList⟩
theorem bUG (h:SimE C V a w fz ρ) {s:TypeId} {x:Operand} {f:Nat} (G:o.op=.fieldAddr s x f) {fields:Array Field} (M:P.underlying s=some (.struct fields)) {fd:Field} (O:fields[f]? =some fd) {n:Nat} (S:qD P fd.type=some n) (I:n≠0) {K:Eff} (he:cMB fd.offset [V.ev x]=some K) (L:∀i,o.dst=some i->i<C.N):cI P C V a w o K:=by
 have D:=h.ev x;have A:∀c off,a.eval x=.pointer (some ⟨c,off,none⟩)->(execOp a.eval o).run P w=.ok (.value (.pointer (some ⟨c,off+fd.offset,none⟩))) w:=by intro c off E;simp[execOp,G,Instr.fieldAt,run_underlying M,O,Instr.sureAddr,E,fieldPlace,qW S,I,xQ]
 unfold cMB at he;split at he;{rename_i b off heq;simp only[List.cons.injEq,and_true]at heq;rw[heq]at D;simp only[Holds]at D;obtain⟨c,J,E⟩:=D;cases he;exact aF h (A _ _ E) L (by simp only[Holds];exact⟨c,J,rfl⟩) rfl};{rename_i wd rows i k heq;simp only[List.cons.injEq,and_true]at heq;rw[heq]at D;simp only[Holds]at D;obtain⟨b,U,E,W⟩:=D;cases he;refine aF h (A _ _ E) L ?_ rfl;simp only[Holds];exact⟨b,U,by simp only[Nat.add_assoc],W⟩};{cases he}
theorem bUH (h:SimE C V a w fz ρ) {x:Operand} {i:Nat} (A:o.op=.extract x i) {I:Eff} (he:cMC i [V.ev x]=some I) (J:∀i,o.dst=some i->i<C.N):cI P C V a w o I:=by have D:=h.ev x;unfold cMC at he;split at he;{rename_i l heq;simp only[List.cons.injEq,and_true]at heq;rw[heq]at D;simp only[Holds]at D;obtain⟨cs,K,L⟩:=D;split at he;{rename_i y M;cases he;obtain⟨v,E,O⟩:=L.get _ _ _ i y M;have G:cs[i]? =some v:=(by simpa using E);exact aF h (by simp[execOp,A,Instr.extract,K,G]) J O.dem (cV y)};{cases he}};{cases he}
end Go.Aw
end
section
namespace Go.Aw
variable [GL]
variable {P:Program} {C:Ctx} {V:View} {a:Act} {w:World} {fz:Fz} {ρ:Ren} {o:Oper} {Q:Exit->Act->World->Prop}
theorem yC (x y:ByteArray):(x.toList==y.toList)=decide (x=y):=by rw[ByteArray.toList_eq,ByteArray.toList_eq];obtain⟨⟨x⟩⟩:=x;obtain⟨⟨y⟩⟩:=y;grind
theorem dD (op:BinOp) (t:TypeId) (x y:Operand) (u v:Value) (hu:u.oneCell'=true) (A:u≠ .nilIface):(eqGuard op t x y u v).run P w=.ok () w:=by cases op<;>simp only[eqGuard,Bool.not_false,Bool.not_true,if_true,Bool.false_eq_true,if_false,Sem.run_pure]<;> (cases u<;>simp_all [Value.oneCell'])
theorem cGN {op:BinOp} {k:IntKind} {x y:Int} {r:Value} (h:cGO op k x y=some r) (t:TypeId):(binOp op t (.int k x) (.int k y)).run P w=.ok r w:=by cases op<;>simp[cGO,bOH]at h<;>subst h<;>simp[binOp,Op.intArith,Op.intCmp,Op.intBits,cPR,orI,aVJ]
theorem aKB (h:SimE C V a w fz ρ) {op:BinOp} {t u:TypeId} {x y:Operand} (O:o.op=.binOp op t x y u) {S:Eff} (he:cMH op [V.ev x,V.ev y]=some S) (I:S.ob) (M:∀i,o.dst=some i->i<C.N):cI P C V a w o S:=by have A:=h.ev x;have G:=h.ev y;simp only[cMH]at he;split at he;{rename_i r J;cases he;simp only at I;have run:∀v,(eqGuard op t x y (a.eval x) (a.eval y)).run P w=.ok () w->(binOp op t (a.eval x) (a.eval y)).run P w=.ok v w->(execOp a.eval o).run P w=.ok (.value v) w:=(by intro v h1 Z;simp[execOp,O,h1,Z]);unfold cPP at J;split at J;{rename_i j K k L D E;rw[D]at A;rw[E]at G;simp only[Holds]at A G;cases J;simp only at I;refine aF h (run (.int j (cNT j K L)) ?_ ?_) M (by simp only[Holds]) rfl;{rw[A];exact dD _ _ _ _ _ _ rfl (by simp)};{rw[A,G];simp[binOp,shift_shl_any _ _ _ _ I,cNT]}};{rename_i j K k L D E;rw[D]at A;rw[E]at G;simp only[Holds]at A G;cases J;simp only at I;refine aF h (run (.int j (bUO j K L)) ?_ ?_) M (by simp only[Holds]) rfl;{rw[A];exact dD _ _ _ _ _ _ rfl (by simp)};{rw[A,G];simp[binOp,shift_shr_any _ _ _ _ I,bUO]}};{rename_i U _ _ _ j K k L _ _ D E;rw[D]at A;rw[E]at G;simp only[Holds]at A G;split at J;{rename_i W;subst W;split at J;{cases J;simp only at I;refine aF h (run (.int j (j.wrap (K.tdiv L))) ?_ ?_) M (by simp only[Holds]) rfl;{rw[A];exact dD _ _ _ _ _ _ rfl (by simp)};{rw[A,G];simp[binOp,Op.intDiv,I]}};{cases J;simp only at I;refine aF h (run (.int j (K.tmod L)) ?_ ?_) M (by simp only[Holds]) rfl;{rw[A];exact dD _ _ _ _ _ _ rfl (by simp)};{rw[A,G];simp[binOp,Op.intDiv,I]}};{cases Y:cGO U j K L with|none=>rw[Y]at J;simp at J|some v=>rw[Y]at J;simp at J;subst J;refine aF h (run v ?_ ?_) M (by simp only[Holds]) rfl;{rw[A];exact dD _ _ _ _ _ _ rfl (by simp)};{rw[A,G];exact cGN Y t}}};{cases J}};{rename_i K L D E;rw[D]at A;rw[E]at G;simp only[Holds]at A G;cases J;refine aF h (run _ ?_ ?_) M (by simp only[Holds];rfl) rfl;{rw[A];exact dD _ _ _ _ _ _ rfl (by simp)};{rw[A,G];simp[binOp,Op.stringOp,yC]}};{rename_i K L D E;rw[D]at A;rw[E]at G;simp only[Holds]at A G;cases J;refine aF h (run _ ?_ ?_) M (by simp only[Holds];rfl) rfl;{rw[A];exact dD _ _ _ _ _ _ rfl (by simp)};{rw[A,G];simp[binOp,Op.stringOp,yC]}};{rename_i K L D E;rw[D]at A;rw[E]at G;simp only[Holds]at A G;cases J;simp only at I;refine aF h (run (.string (K++L)) ?_ ?_) M (by simp only[Holds]) rfl;{rw[A];exact dD _ _ _ _ _ _ rfl (by simp)};{rw[A,G];have hm:IntKind.i64.max=9223372036854775807:=rfl;have:¬ (9223372036854775807<(K.size:Int)+L.size):=(by omega);simp[binOp,Op.stringOp,hm,this]}};{rename_i K L D E;rw[D]at A;rw[E]at G;simp only[Holds]at A G;cases J;refine aF h (run _ ?_ ?_) M (by simp only[Holds];rfl) rfl;{rw[A];exact dD _ _ _ _ _ _ rfl (by simp)};{rw[A,G];simp[binOp,Op.stringOp]}};{rename_i K L D E;rw[D]at A;rw[E]at G;simp only[Holds]at A G;cases J;refine aF h (run _ ?_ ?_) M (by simp only[Holds];rfl) rfl;{rw[A];exact dD _ _ _ _ _ _ rfl (by simp)};{rw[A,G];simp[binOp,Op.stringOp]}};{cases J}};{cases he}
theorem bUJ (h:SimE C V a w fz ρ) {neg:Bool} {op:BinOp} (A:op=if neg then .neq else .eql) {t u:TypeId} {x y:Operand} (G:o.op=.binOp op t x y u) (J:P.underlying t=some .bool) {I:Eff} (he:cME neg [V.ev x,V.ev y]=some I) (K:∀i,o.dst=some i->i<C.N):cI P C V a w o I:=by have D:=h.ev x;have E:=h.ev y;unfold cME at he;split at he;{rename_i b c heq;simp only[List.cons.injEq,and_true]at heq;rw[heq.1]at D;rw[heq.2]at E;simp only[Holds]at D E;cases he;refine aF h (v:=.bool (if neg then !(b==c)else b==c)) ?_ K (by simp only[Holds]) rfl;have h1:(eqGuard op t x y (a.eval x) (a.eval y)).run P w=.ok () w:=(by rw[D];exact dD _ _ _ _ _ _ rfl (by simp));cases neg<;>simp only[Bool.false_eq_true,if_false,if_true]at A<;>subst A<;>rw[D,E]at h1<;> simp[execOp,G,h1,D,E,binOp,Op.equal,Op.maxDepth,run_equalIn_bool' w 9999 t b c J]};{cases he}
theorem aBI:∀ (J:List Field) (n:Nat) (ks:List Nat),uT P J n=some ks-> ∀ (l r:List AV) (xs K:Array Value) (b:Bool),eqA ks l r=some b-> (∀ (j:Nat) (x:AV),l[j]? =some x-> ∃v,xs[n+j]? =some v/\Holds fz x ρ v)->(∀ (j:Nat) (x:AV),r[j]? =some x-> ∃v,K[n+j]? =some v/\Holds fz x ρ v)-> ∀d,(Op.eqFields (d+1) xs K J).run P w=.ok b w
 |[],n,ks,hk,l,r,xs,K,b,he,U,W,d=>by simp only[uT,Option.some.injEq]at hk;subst hk;cases l<;>cases r<;>simp[eqA]at he;simp_all [Op.eqFields]
 |f::J,n,ks,hk,l,r,xs,K,b,he,U,W,d=>by
  simp only[uT]at hk;split at hk
  ·rename_i A;obtain⟨E,L⟩:=A;have key:∀ (k:Nat) (ks':List Nat),uT P J (n+1)=some ks'->ks=k::ks'->nU P f.type=some false->
    (∀x y c u v,eqV k x y=some c->Holds fz x ρ u->Holds fz y ρ v->(Op.equalIn (d+1) f.type u v).run P w=.ok c w)->(Op.eqFields (d+1) xs K (f::J)).run P w=.ok b w:=by
    intro k ks' Y D M O
    subst D
    cases l with
    |nil=>simp[eqA]at he
    |cons x l=>
     cases r with
      |nil=>simp[eqA]at he
      |cons y r=>
       simp only[eqA]at he
       cases Z:eqV k x y with
        |none=>rw[Z]at he;simp at he
        |some c=>
         rw[Z]at he
         cases hA:eqA ks' l r with
          |none=>rw[hA]at he;simp at he
          |some c'=>
           rw[hA]at he;simp at he;subst he
           obtain⟨u,hu,ab⟩:=U 0 x (by simp)
           obtain⟨v,S,ac⟩:=W 0 y (by simp)
           have ih:=aBI J (n+1) ks' Y l r xs K c' hA (fun j x hj=>by
            have:=U (j+1) x (by simpa using hj)
            rwa [show n+(j+1)=n+1+j from by omega]at this) (fun j x hj=>by
            have:=W (j+1) x (by simpa using hj)
            rwa [show n+(j+1)=n+1+j from by omega]at this) d
           simp only[Nat.add_zero]at hu S
           have ae:(part f.type xs f.offset).run P w=.ok u w:=by simp[part,mK M,E,hu]
           have af:(part f.type K f.offset).run P w=.ok v w:=by simp[part,mK M,E,S]
           have ag:=O x y c u v Z ab ac
           cases c<;>simp[Op.eqFields,L,ae,af,ag,ih]
   cases hu:P.underlying f.type with|none=>rw[hu]at hk;simp at hk|some dd=>cases D:uT P J (n+1)with|none=>rw[hu,D]at hk;cases dd<;>simp at hk|some ks'=>rw[hu,D]at hk;cases dd with|int k'=>simp at hk;refine key 0 ks' D hk.symm (by simp[nU,hu]) fun x y c u v A G I=>?_;unfold eqV at A;split at A;{split at A;{rename_i ah;cases A;simp only[Holds]at G I;subst G;subst I;rw[<-ah.2];exact run_equalIn_int w d _ _ k' _ _ hu};{cases A}};{simp at A};{simp at A};{cases A}|string=>simp at hk;refine key 1 ks' D hk.symm (by simp[nU,hu]) fun x y c u v A G I=>?_;unfold eqV at A;split at A;{simp at A};{simp at A;simp only[Holds]at G I;subst G;subst I;subst A;rw[run_equalIn_string w d _ _ _ hu,yC]};{simp at A};{cases A}|bool=>simp at hk;refine key 2 ks' D hk.symm (by simp[nU,hu]) fun x y c u v A G I=>?_;unfold eqV at A;split at A;{simp at A};{simp at A};{simp at A;simp only[Holds]at G I;subst G;subst I;subst A;exact run_equalIn_bool' w d _ _ _ hu};{cases A}|_=>simp at hk
  {cases hk}
theorem bUI (h:SimE C V a w fz ρ) {neg:Bool} {op:BinOp} (A:op=if neg then .neq else .eql) {t u:TypeId} {x y:Operand} (I:o.op=.binOp op t x y u) {fields:Array Field} (O:P.underlying t=some (.struct fields)) (W:P.stoodInHeld t=false) (Y:P.eqGuardType P.depth t=false) {ks:List Nat} (hk:uT P fields.toList 0=some ks) {S:Eff} (he:cMD neg ks [V.ev x,V.ev y]=some S) (Z:∀i,o.dst=some i->i<C.N):cI P C V a w o S:=by
 have D:=h.ev x;have E:=h.ev y;unfold cMD at he;split at he
 ·rename_i l r heq;simp only[List.cons.injEq,and_true]at heq;rw[heq.1]at D;rw[heq.2]at E;simp only[Holds]at D E;obtain⟨xs,D,hl⟩:=D;obtain⟨G,E,hr⟩:=E;split at he
  ·rename_i b hb;cases he;have U:P.fieldsOf t=fields:=(by simp[Program.fieldsOf,O]);have hE:=aBI (w:=w) fields.toList 0 ks hk l r xs G b hb (fun j x K=>by
    obtain⟨v,L,M⟩:=hl.get _ _ _ j x K;exact⟨v,by simpa using L,M⟩) (fun j x K=>by
    obtain⟨v,L,M⟩:=hr.get _ _ _ j x K;exact⟨v,by simpa using L,M⟩) 9998
   have J:(Op.equalIn 10000 t (.agg xs) (.agg G)).run P w=.ok b w:=(by rw[run_equalIn_struct w 9999 t xs G (by rw[U];exact O) W,U];exact hE);have h1:=run_eqGuard_agg (P:=P) w op t x y xs G Y;refine aF h (v:=.bool (if neg then !b else b)) ?_ Z (by simp only[Holds]) rfl;cases neg<;>simp only[Bool.false_eq_true,if_false,if_true]at A<;>subst A;{have:=run_eql_struct (P:=P) w t xs G;rw[J]at this;simp[execOp,I,D,E,h1,this]};{have:=run_neq_struct (P:=P) w t xs G;rw[J]at this;simp[execOp,I,D,E,h1,this]}
  {cases he}
 {cases he}
end Go.Aw
end
section
namespace Go.Aw
variable [GL]
variable {P:Program} {C:Ctx} {V:View} {a:Act} {w:World} {fz:Fz} {ρ:Ren} {o:Oper} {Q:Exit->Act->World->Prop}
theorem aAT {wd:Nat} {x:AV} {rows:List (List AV)} (h:aDM wd x=some rows) {v:Value} (A:Holds fz x ρ v): ∃a c,v=.slice a rows.length c/\rows.length<=c/\(rows=[]\/ ∃b o,a=some ⟨b,o,none⟩/\HoldsR fz rows wd b o):=by unfold aDM at h;split at h;{split at h;{rename_i e;cases h;subst e;simpa only[Holds]using A};{cases h}};{split at h;{rename_i e;cases h;subst e;simp only[Holds]at A;obtain⟨a,e,D⟩:=A;exact⟨a,_,e,Nat.le_refl _,D⟩};{cases h}};{split at h;{rename_i e;cases h;subst e;simpa only[Holds]using A};{cases h}};{cases h;simp only[Holds]at A;exact⟨none,0,A,Nat.le_refl _,.inl rfl⟩};{cases h}
theorem dI {n:Int} {y:Nat} {code:BoundsCode} {k:IntKind} (A:0<=n) (h1:n<=y) (w:World):(Instr.sliceBound (.int k n) y code).run P w=.ok n.toNat w:=by simp[Instr.sliceBound,asIntOf,A,h1]
theorem bTW {wd:Nat} {rows:List (List AV)} {A:Option Addr} (D:rows=[]\/ ∃b o,A=some ⟨b,o,none⟩/\HoldsR fz rows wd b o) {l h m:Nat} (G:l<=h) (I:h<=rows.length) (hm:h<=m): (rows.take h).drop l=[]\/ ∃b o,(if m=l then A else A.map (·.add (l*wd)))=some ⟨b,o,none⟩/\HoldsR fz ((rows.take h).drop l) wd b o:=by rcases D with rfl|⟨b,o,rfl,E⟩;{simp};{refine .inr ?_;split;{grind [List.drop_eq_nil_iff,List.length_take,HoldsR]};{exact⟨b,o+l*wd,by simp[xQ],(E.take _ h _ _ _).drop _ l _ _ _⟩}}
theorem bCA (h:SimE C V a w fz ρ) {t e:TypeId} {x:Operand} {G hi mx:Option Operand} (L:o.op=.slice t x G hi mx) (Z:P.underlying t=some (.slice e)) {wd:Nat} (hn:qD P e=some wd) {rows:List (List AV)} (hm:aDM wd (V.ev x)=some rows) {l A:Nat} {full:Bool} (D:∀cap,rows.length<=cap-> ∃m,(Instr.sliceBounds true rows.length cap (G.map a.eval) (hi.map a.eval) (mx.map a.eval)).run P w=.ok (l,A,m) w/\A<=m/\(full=true->m=A)) (M:l<=A) (O:A<=rows.length) {ob:Prop} (S:∀i,o.dst=some i->i<C.N):cI P C V a w o {out:=if full then .fx wd ((rows.take A).drop l)else .rd wd ((rows.take A).drop l),ob:=ob}:=by
 obtain⟨I,c,hv,U,W⟩:=aAT hm (h.ev x);obtain⟨m,J,E,Y⟩:=D c U;have K:=bTW (l:=l) (h:=A) (m:=m) W M O E;have hlen:((rows.take A).drop l).length=A-l:=by simp;omega
 refine aF h (v:=.slice (if m=l then I else I.map (·.add (l*wd))) (A-l) (m-l)) ?_ S ?_ (by cases full<;>rfl);{simp_all [execOp,Instr.sliceAt,Instr.slice,run_underlying,qW]};{cases full with|true=>simp_all [if_true,Holds]|false=>simp only[Bool.false_eq_true,if_false,Holds,hlen];grind}
theorem aLM (h:SimE C V a w fz ρ) {x:Operand} {k:IntKind} {n:Int} (e:V.ev x=.val (.int k n)):a.eval x=.int k n:=by have:=h.ev x;simp_all [Holds]
theorem aIX (h:SimE C V a w fz ρ) {q:Option Operand} {r:List Operand} {n:Option Int} {vs:List AV} (A:bnd q.isSome ((q.toList++r).map V.ev)=some (n,vs)): q.map a.eval=n.map (fun n=>Value.int .i64 n)/\vs=r.map V.ev:=by
 cases q with
 |none=>grind [bnd]
 |some y=>
  simp only[Option.isSome_some,Option.toList_some,List.cons_append,List.nil_append,List.map_cons,bnd]at A
  grind [List.cons.injEq,aLM]
theorem aNX {α:Type} {l h:Option Int} {rows:List α} (A:h.getD rows.length<=rows.length) (D:0<=h.getD rows.length):bJF l (bGB h rows)=(rows.take (h.getD rows.length).toNat).drop (l.getD 0).toNat:=by cases l<;>cases h<;>simp[bJF,bGB]
theorem bTX (h:SimE C V a w fz ρ) {t e:TypeId} {x:Operand} {J hi mx:Option Operand} (K:o.op=.slice t x J hi mx) (U:P.underlying t=some (.slice e)) {wd:Nat} (W:qD P e=some wd) {L:Eff} (he:cLU wd J.isSome hi.isSome mx.isSome ((x::(J.toList++(hi.toList++mx.toList))).map V.ev)=some L) (A:L.ob) (Y:∀i,o.dst=some i->i<C.N):cI P C V a w o L:=by
 simp only[List.map_cons,cLU]at he;split at he
 ·rename_i rows l vs hm Z;obtain⟨el,rfl⟩:=aIX h Z;split at he
  ·rename_i D vs M;obtain⟨eh,rfl⟩:=aIX h M;have key:∀ (m:Option Int) (vs:List AV),bnd mx.isSome (mx.toList.map V.ev)=some (m,vs)->0<=l.getD 0->l.getD 0<=D.getD rows.length->D.getD rows.length<=rows.length->(∀O,m=some O->D=some O)-> ∀ob:Prop,
    cI P C V a w o {out:=if m.isSome then .fx wd ((rows.take (D.getD rows.length).toNat).drop (l.getD 0).toNat)else .rd wd ((rows.take (D.getD rows.length).toNat).drop (l.getD 0).toNat),ob:=ob}:=by
    intro m vs E G h1 I h3 ob
    obtain⟨em,_⟩:=aIX (r:=[]) h (by simpa using E)
    refine bCA h K U W hm (fun cap S=>?_) (by omega) (by omega) Y
    rw[el,eh,em]
    cases m with
    |none=>
     refine⟨cap,?_,by omega,by simp⟩
     cases l with
      |none=>
       cases D with
        |none=>simp[Instr.sliceBounds]
        |some D=>
         simp only[Option.getD_some,Option.getD_none]at G h1 I|-
         simp[Instr.sliceBounds,dI (P:=P) (n:=D) (y:=cap) (code:=.sliceAcap) (k:=.i64) (by omega) (by omega) w]
      |some l=>
       cases D with
        |none=>
         simp only[Option.getD_some,Option.getD_none]at G h1 I|-
         simp[Instr.sliceBounds,dI (P:=P) (n:=l) (y:=rows.length) (code:=.sliceB) (k:=.i64) (by omega) (by omega) w]
        |some D=>
         simp only[Option.getD_some]at G h1 I|-
         simp[Instr.sliceBounds,dI (P:=P) (n:=D) (y:=cap) (code:=.sliceAcap) (k:=.i64) (by omega) (by omega) w,
          dI (P:=P) (n:=l) (y:=D.toNat) (code:=.sliceB) (k:=.i64) (by omega) (by omega) w]
    |some m=>
     have:=h3 m rfl
     subst this
     simp only[Option.getD_some]at G h1 I|-
     refine⟨m.toNat,?_,by omega,by simp⟩
     cases l with
      |none=>
       simp only[Option.getD_none]at G h1|-
       simp[Instr.sliceBounds,dI (P:=P) (n:=m) (y:=cap) (code:=.slice3Acap) (k:=.i64) (by omega) (by omega) w,dI (P:=P) (n:=m) (y:=m.toNat) (code:=.slice3B) (k:=.i64) (by omega) (by omega) w]
      |some l=>
       simp only[Option.getD_some]at G h1|-
       simp[Instr.sliceBounds,dI (P:=P) (n:=m) (y:=cap) (code:=.slice3Acap) (k:=.i64) (by omega) (by omega) w,dI (P:=P) (n:=m) (y:=m.toNat) (code:=.slice3B) (k:=.i64) (by omega) (by omega) w,
        dI (P:=P) (n:=l) (y:=m.toNat) (code:=.slice3C) (k:=.i64) (by omega) (by omega) w]
   split at he;{rename_i vs' E;cases he;have:=key none vs' E A.1 A.2.1 A.2.2 (by simp) (0<=l.getD 0/\l.getD 0<=D.getD rows.length/\D.getD rows.length<=rows.length);rw[aNX A.2.2 (by have:=A.1;have:=A.2.1;omega)];simpa using this};{rename_i m vs' E;cases he;have:=key (some m) vs' E A.1 A.2.1 A.2.2.1 (fun O e=>by cases e;exact A.2.2.2) (0<=l.getD 0/\l.getD 0<=D.getD rows.length/\D.getD rows.length<=rows.length/\D=some m);rw[aNX A.2.2.1 (by have:=A.1;have:=A.2.1;omega)];simpa using this};{cases he}
  {cases he}
 {cases he}
theorem bLK (h:SimE C V a w fz ρ) {t:TypeId} {x:Operand} {D hi:Option Operand} (E:o.op=.slice t x D hi none) (S:P.underlying t=some .string) {G:Eff} (he:bSK D.isSome hi.isSome ((x::(D.toList++hi.toList)).map V.ev)=some G) (I:G.ob) (U:∀i,o.dst=some i->i<C.N):cI P C V a w o G:=by have J:=h.ev x;simp only[List.map_cons]at he;unfold bSK at he;split at he;{rename_i s vs heq;simp only[List.cons.injEq]at heq;obtain⟨e1,W⟩:=heq;subst W;rw[e1]at J;simp only[Holds]at J;split at he;{rename_i l vs Y;obtain⟨el,rfl⟩:=aIX h Y;split at he;{rename_i A vs K;obtain⟨Z,_⟩:=aIX (r:=[]) h (by simpa using K);cases he;obtain⟨L,h1,M⟩:=I;refine aF h (v:=.string (s.extract (l.getD 0).toNat (A.getD s.size).toNat)) ?_ U (by simp only[Holds]) rfl;have O:∃m,(Instr.sliceBounds false s.size s.size (D.map a.eval) (hi.map a.eval) none).run P w=.ok ((l.getD 0).toNat,(A.getD s.size).toNat,m) w:=(by rw[el,Z];refine⟨s.size,?_⟩;cases l with|none=>(cases A with|none=>simp[Instr.sliceBounds]|some A=>simp only[Option.getD_some,Option.getD_none]at L h1 M|-;simp[Instr.sliceBounds,dI (P:=P) (n:=A) (y:=s.size) (code:=.sliceAlen) (k:=.i64) (by omega) (by omega) w])|some l=>cases A with|none=>simp only[Option.getD_some,Option.getD_none]at L h1 M|-;simp[Instr.sliceBounds,dI (P:=P) (n:=l) (y:=s.size) (code:=.sliceB) (k:=.i64) (by omega) (by omega) w]|some A=>simp only[Option.getD_some]at L h1 M|-;simp[Instr.sliceBounds,dI (P:=P) (n:=A) (y:=s.size) (code:=.sliceAlen) (k:=.i64) (by omega) (by omega) w,dI (P:=P) (n:=l) (y:=A.toNat) (code:=.sliceB) (k:=.i64) (by omega) (by omega) w]);obtain⟨m,O⟩:=O;simp[execOp,E,Instr.sliceAt,Instr.slice,run_underlying S,J,O]};{cases he}};{cases he}};{cases he}
theorem aNQ {t e:TypeId} (A:P.underlying t=some (.slice e)) {wd:Nat} (D:qD P e=some wd) {c off len cap:Nat} {k:IntKind} {i:Int} (E:0<=i) (h1:i<len) (w:World): (Instr.indexAt t (.slice (some ⟨c,off,none⟩) len cap) (.int k i)).run P w=.ok (.pointer (some ⟨c,off+i.toNat*wd,none⟩)) w:=by simp[Instr.indexAt,asIntOf,run_underlying A,E,h1,qW D,xQ]
theorem bUE (h:SimE C V a w fz ρ) {t e:TypeId} {x i:Operand} (D:o.op=.indexAddr t x i) (L:P.underlying t=some (.slice e)) {wd:Nat} (M:qD P e=some wd) {G:Eff} (he:cLZ wd [V.ev x,V.ev i]=some G) (A:G.ob) (O:∀i,o.dst=some i->i<C.N):cI P C V a w o G:=by have E:=h.ev x;unfold cLZ at he;split at he;{rename_i U k n heq;simp only[List.cons.injEq,and_true]at heq;obtain⟨e1,W⟩:=heq;have hi:=aLM h W;rw[e1]at E;have frozen:∀ (rows:List (List AV)),aDM wd U=some rows->0<=n/\n<rows.length-> ∀ob:Prop,cI P C V a w o {out:=.elt wd rows n.toNat 0,ob:=ob}:=(by intro rows hm I ob;obtain⟨ad,c,J,hc,Y⟩:=aAT hm E;rcases Y with⟨_,rfl⟩|⟨b,S,rfl,Z⟩;{exact absurd I.2 (by simp;omega)};{refine aF h (v:=.pointer (some ⟨b,S+n.toNat*wd,none⟩)) ?_ O ?_ rfl;{simp only[execOp,D,J,hi,Sem.run_bind,aNQ L M I.1 I.2 w,Result.andThen_ok,Sem.run_pure]};{simp only[Holds];exact⟨b,S,by simp,Z⟩}});split at he;{rename_i b w' off m cap;split at he;{rename_i e;subst e;cases he;simp only[Holds]at E;obtain⟨c,K,J⟩:=E;refine aF h (v:=.pointer (some ⟨c,off+n.toNat*w',none⟩)) ?_ O ?_ rfl;{simp only[execOp,D,J,hi,Sem.run_bind,aNQ L M A.1 A.2 w,Result.andThen_ok,Sem.run_pure]};{simp only[Holds];exact⟨c,K,rfl⟩}};{cases he}};{split at he;{rename_i e;subst e;cases he;exact frozen _ (by simp[aDM]) A _};{cases he}};{split at he;{rename_i e;subst e;cases he;exact frozen _ (by simp[aDM]) A _};{cases he}};{split at he;{rename_i e;subst e;cases he;exact frozen _ (by simp[aDM]) A _};{cases he}};{cases he}};{cases he}
theorem bLQ (h:SimE C V a w fz ρ) {t:TypeId} {x i:Operand} (E:o.op=.index t x i) (K:P.underlying t=some .string) {G:Eff} (he:bSP [V.ev x,V.ev i]=some G) (I:G.ob) (L:∀i,o.dst=some i->i<C.N):cI P C V a w o G:=by have J:=h.ev x;unfold bSP at he;split at he;{rename_i s k n heq;simp only[List.cons.injEq,and_true]at heq;obtain⟨e1,M⟩:=heq;have hi:=aLM h M;rw[e1]at J;simp only[Holds]at J;cases he;obtain⟨O,h1⟩:=I;have A:n.toNat<s.size:=(by omega);refine aF h (v:=.int .u8 (s.get! n.toNat).toNat) ?_ L (by simp only[Holds]) rfl;have S:s[n.toNat]? =some (s.get! n.toNat):=(by obtain⟨d⟩:=s;have D:n.toNat<d.size:=A;show(if h:n.toNat<(ByteArray.mk d).size then some ((ByteArray.mk d)[n.toNat]'h)else none)=_;rw[dif_pos A];congr 1;show d[n.toNat]=d[n.toNat]!;rw[getElem!_pos d n.toNat D]);simp[execOp,E,Instr.index,asIntOf,run_underlying K,J,hi,O,S]};{cases he}
end Go.Aw
end
section
namespace Go.Aw
variable [GL]
variable {P:Program} {C:Ctx} {V:View} {a:Act} {w:World} {fz:Fz} {ρ:Ren} {o:Oper} {Q:Exit->Act->World->Prop}
theorem bUF (h:SimE C V a w fz ρ) {t:TypeId} {x:Operand} {f:Nat} (E:o.op=.field t x f) {fields:Array Field} (M:P.underlying t=some (.struct fields)) {fd:Field} (O:fields[f]? =some fd) {n:Nat} {I:Bool} (Z:qD P fd.type=some n) (G:nU P fd.type=some I) {S:Eff} (he:cMA fd.offset n I [V.ev x]=some S) (U:∀i,o.dst=some i->i<C.N):cI P C V a w o S:=by have D:=h.ev x;unfold cMA at he;split at he;{rename_i l heq;simp only[List.cons.injEq,and_true]at heq;rw[heq]at D;simp only[Holds]at D;obtain⟨cs,W,Y⟩:=D;split at he;{rename_i y A;cases he;have J:=wP A;simp only[wQ]at A;cases I with|true=>simp only[if_true]at A;split at A;{rename_i aa;cases A;have K:=((Y.drop fd.offset).take n).dem;refine aF h (v:=.agg (cs.extract fd.offset (fd.offset+n))) ?_ U ?_ rfl;{simp[execOp,E,Instr.field,run_underlying M,O,W,asAgg,part,mK G,qW Z]};{simp only[Holds];refine⟨_,rfl,?_⟩;have e:(cs.extract fd.offset (fd.offset+n)).toList=(cs.toList.drop fd.offset).take n:=(by rw[Array.toList_extract,List.extract_eq_take_drop,Nat.add_sub_cancel_left]);rw[e];exact K}};{cases A}|false=>simp only[Bool.false_eq_true,if_false]at A;cases D:l[fd.offset]? with|none=>rw[D]at A;simp at A|some z=>rw[D]at A;simp at A;subst A;obtain⟨v,L,hh⟩:=Y.get _ _ _ _ z D;have:cs[fd.offset]? =some v:=(by simpa using L);exact aF h (v:=v) (by simp[execOp,E,Instr.field,run_underlying M,O,W,asAgg,part,mK G,this]) U hh.dem J};{cases he}};{cases he}
theorem bCG {x:AV} {rows:List (List AV)} (h:aKI x=some rows) {v:Value} (A:Holds fz x ρ v):∃a c,v=.slice a rows.length c:=by unfold aKI at h;grind [Holds]
theorem aKA (h:SimE C V a w fz ρ) {t:TypeId} {x:Operand} (L:o.op=.call {callee:=.builtin .len,args:=#[x],argTypes:=#[t]}) {K:Nat} (E:(K=0/\ ∃e,P.underlying t=some (.slice e))\/(K=1/\P.underlying t=some .string)\/(K=2/\ ∃k e,P.underlying t=some (.map k e))) {g:Nat->Option Blk} (W:∀b k,g b=some k->V.hp b=some k) {U:Eff} (he:aWL K g [V.ev x]=some U) (Y:∀i,o.dst=some i->i<C.N):cI P C V a w o U:=by
 have A:=h.ev x;have run:∀n:Nat,(Builtin.len_ #[t] o.type #[a.eval x]).run P w=.ok (.int .i64 n) w->cI P C V a w o {out:=.val (.int .i64 n)}:=by intro n M;exact aF h (v:=.int .i64 n) (by simp[execOp,L,resolve,invoke,builtin,M]) Y (by rfl) rfl
 rcases E with⟨rfl,e,E⟩|⟨rfl,E⟩|⟨rfl,k,e,E⟩;{simp only[aWL]at he;split at he;{rename_i b w' off n cap heq;rw[heq]at A;simp only[Holds]at A;obtain⟨c,_,G⟩:=A;cases he;simp_all [Builtin.len_,run_underlying,goInt]};{split at he;{rename_i rows M;cases he;obtain⟨ad,c,G⟩:=bCG M A;exact run rows.length (by simp[Builtin.len_,run_underlying E,G,goInt])};{cases he}}};{cases D:V.ev x with|val v=>(rw[D]at he A;cases v with|string s=>simp[aWL]at he;subst he;simp_all [Holds,Builtin.len_,run_underlying,goInt]|_=>grind [aWL])|_=>simp_all [aWL]};{cases D:V.ev x with|mapr b=>rw[D]at he A;simp only[aWL]at he;split at he;{rename_i ks vs O;cases he;simp only[Holds]at A;obtain⟨c,S,G⟩:=A;obtain⟨c',I,_,⟨es,clock,hm,J,_⟩,_⟩:=h.hp _ _ (W _ _ O);rw[S]at I;cases I;have:es.size=ks.length:=(by rw[<-J];simp);exact run ks.length (by simp[Builtin.len_,run_underlying E,G,goInt,getObj,Sem.run,hm,this])};{cases he}|rmap ks vs=>rw[D]at he A;simp[aWL]at he;subst he;simp only[Holds]at A;rcases A with⟨G,rfl,_⟩|⟨c,es,clock,G,Z,J,_⟩;{exact run 0 (by simp[Builtin.len_,run_underlying E,G,goInt])};{have:es.size=ks.length:=(by grind);exact run ks.length (by simp[Builtin.len_,run_underlying E,G,goInt,getObj,Sem.run,h.fobj c _ Z,this])}|_=>simp_all [aWL]}
theorem aFH {fz:Fz} (V:View) (a:Act) {ρ:Ren} (place:Nat->Option (Nat×Nat)):∀ (ps:List (Nat×Operand)) (E:List (Nat×Nat×Operand)),sH place ps=some E->(∀p∈ps,Holds fz (V.ev p.2) ρ (a.eval p.2))-> ∀ (l J:List AV) (cells:Array Value),HoldsL fz l ρ cells.toList->(∀u∈cells.toList,u.oneCell'=true)->aTL l (E.map fun p=>(p.1,p.2.1,V.ev p.2.2))=some J-> ∃A,Instr.fill place cells (ps.map fun p=>(p.1,a.eval p.2))=some A/\HoldsL fz J ρ A.toList/\(∀u∈A.toList,u.oneCell'=true)/\J.length=l.length
 |[],E,hp,_,l,J,cells,K,h1,he=>by simp only[sH,Option.some.injEq]at hp;subst hp;simp only[List.map_nil,aTL,Option.some.injEq]at he;subst he;exact⟨cells,rfl,K,h1,rfl⟩
 |(i,x)::ps,E,hp,L,l,J,cells,K,h1,he=>by
  simp only[sH]at hp;split at hp
  ·rename_i q r hq hr;cases hp;simp only[List.map_cons,aTL]at he;split at he
   ·rename_i cs W;split at he
    ·rename_i l2 G;obtain⟨M,Y⟩:=vY (L (i,x) (by simp)) W;simp only[aAD]at G;split at G
     ·rename_i hlen;cases G;have Z:=M.len;have aa:=K.len;simp only[List.length_map]at hlen;have af:(a.eval x).cells.size=q.2:=(by simpa using Z.trans hlen.1);have ac:cells.size=l.length:=(by simpa using aa);let D:Array Value:=(a.eval x).cells.zipIdx.foldl (fun cs (c,j)=>cs.setIfInBounds (q.1+j) c) cells
      have I:=Great.foldl_set q.1 (a.eval x).cells.toList 0 cells;have O:D=((a.eval x).cells.toList.zipIdx 0).foldl (fun cs (x:Value×Nat)=>cs.setIfInBounds (q.1+x.2) x.1) cells:=(by show(a.eval x).cells.zipIdx.foldl (fun cs (c,j)=>cs.setIfInBounds (q.1+j) c) cells=_;rw[<-Array.foldl_toList,Array.toList_zipIdx]);rw[<-O]at I;have S:D.toList=cells.toList.take q.1++(a.eval x).cells.toList++cells.toList.drop (q.1+q.2):=(by apply List.ext_getElem?;intro k;have:=I.2 k;simp only[Nat.add_zero,Array.length_toList]at this;rw[Array.getElem?_toList,this];by_cases ab:k<q.1;{rw[if_neg (by omega),List.append_assoc,List.getElem?_append_left (by simp;omega)];simp[ab]};{by_cases ag:k<q.1+q.2;{rw[if_pos (by omega),List.append_assoc,List.getElem?_append_right (by simp;omega),List.getElem?_append_left (by simp;omega)];congr 1;simp;omega};{rw[if_neg (by omega),List.getElem?_append_right (by simp;omega)];simp only[List.getElem?_drop,Array.getElem?_toList];congr 1;simp;omega}});have U:HoldsL fz (l.take q.1++cs.map Aw.dem++l.drop (q.1+q.2)) ρ D.toList:=(by rw[S];exact((K.take _).append M.dem).append (K.drop _));obtain⟨A,hf,h3,h4,h5⟩:=aFH V a place ps r hr (fun p hp=>L p (by simp[hp])) _ _ D U (fun u hu=>by
       rw[S]at hu;rcases List.mem_append.1 hu with hu|hu;{rcases List.mem_append.1 hu with hu|hu;{exact h1 u (List.mem_of_mem_take hu)};{exact Y u hu}}
       ·exact h1 u (List.mem_of_mem_drop hu)) he
      refine⟨A,?_,h3,h4,by rw[h5];simp;omega⟩;simp only[List.map_cons,Instr.fill,hq];rw[if_neg (by simp;omega)];exact hf
     {cases G}
    {cases he}
   {cases he}
  {cases hp}
theorem aGD {α β:Type} (l:List α) (f:α->β):l.zip (l.map f)=l.map fun x=>(x,f x):=by induction l with|nil=>rfl|cons x l A=>simp[A]
theorem aMQ (h:SimE C V a w fz ρ) {t:TypeId} {ps:Array (Nat×Operand)} (E:o.op=.build t ps) {place:Nat->Option (Nat×Nat)} {z:Value} {D:List (Nat×Nat×Operand)} (I:∀parts,P.built t parts=Instr.fill place z.cells parts) (J:z.cells.toList.all Value.oneCell'=true) (hp:sH place ps.toList=some D) {G:Eff} (he:bEX z.cells.toList D (D.map fun p=>V.ev p.2.2)=some G) (K:∀i,o.dst=some i->i<C.N):cI P C V a w o G:=by simp only[bEX,aGD,List.map_map]at he;split at he;{rename_i l L;cases he;obtain⟨A,M,h1,O,_⟩:=aFH (fz:=fz) V a (ρ:=ρ) place ps.toList D hp (fun p _=>h.ev p.2) _ l z.cells (HoldsL.vals _) (fun u hu=>List.all_eq_true.1 J u hu) L;refine aF h (v:=.agg A) ?_ K (by simp only[Holds];exact⟨_,rfl,h1⟩) rfl;have:=run_build (P:=P) w t (ps.map fun(i,x)=>(i,a.eval x)) A (by rw[I];simpa using M);simp[execOp,E,this]};{cases he}
mutual
theorem Holds.noref {fz:Fz}:∀ (x:AV) (ρ ρ':Ren) (v:Value),noref x=true->Holds fz x ρ v->Holds fz x ρ' v
 | .unk,_,_,_,_,_=>by assumption
 | .val u,_,_,_,_,h=>by assumption
 | .agg l,ρ,ρ',v,A,h=>by (simp only[Holds]at h|-;simp only[Aw.noref]at A;obtain⟨cs,e,h⟩:=h;exact⟨cs,e,HoldsL.noref l ρ ρ' _ A h⟩)| .tup l,ρ,ρ',v,A,h=>by (simp only[Holds]at h|-;simp only[Aw.noref]at A;obtain⟨cs,e,h⟩:=h;exact⟨cs,e,HoldsL.noref l ρ ρ' _ A h⟩)| .clo fn l,ρ,ρ',v,A,h=>by (simp only[Holds]at h|-;simp only[Aw.noref]at A;obtain⟨cs,e,h⟩:=h;exact⟨cs,e,HoldsL.noref l ρ ρ' _ A h⟩)| .ifc t x,ρ,ρ',v,A,h=>by simp only[Holds]at h|-;simp only[Aw.noref]at A;obtain⟨u,e,h⟩:=h;exact⟨u,e,Holds.noref x ρ ρ' _ A h⟩
 | .rd ..,_,_,_,_,h| .fx ..,_,_,_,_,h| .own ..,_,_,_,_,h| .elt ..,_,_,_,_,h| .rmap ..,_,_,_,_,h| .kset ..,_,_,_,_,h=>by assumption
 | .ptr ..,_,_,_,A,_| .vec ..,_,_,_,A,_| .mapr ..,_,_,_,A,_=>by grind [Aw.noref]
theorem HoldsL.noref {fz:Fz}:∀ (l:List AV) (ρ ρ':Ren) (vs:List Value),aW l=true->HoldsL fz l ρ vs->HoldsL fz l ρ' vs
 |[],_,_,_,_,h=>by assumption
 |x::xs,ρ,ρ',vs,A,h=>by simp only[HoldsL]at h|-;simp only[aW,Bool.and_eq_true]at A;obtain⟨v,r,e,h1,D⟩:=h;exact⟨v,r,e,Holds.noref x ρ ρ' v A.1 h1,HoldsL.noref xs ρ ρ' r A.2 D⟩
end
theorem bMT {l:List AV} (h:aW l=true):∀x∈l,noref x=true:=by induction l with|nil=>simp|cons y l A=>simp_all [aW,Bool.and_eq_true,List.mem_cons]
def Fz.add (fz:Fz) (g:Nat) (cs:List Value):Fz:={cell:=fun b o=>if b=g then cs[o]? else fz.cell b o,obj:=fz.obj}
theorem Fz.le_add {fz:Fz} {g:Nat} {cs:List Value} (h:∀o,fz.cell g o=none):fz.le (fz.add g cs):=by refine⟨fun b o v e=>?_,fun b o e=>e⟩;grind [Fz.add]
theorem HoldsR.chunk {fz:Fz} {g wd n:Nat} {l:List AV} {vs:List Value} (J:HoldsL fz l bT vs) (h1:∀u∈vs,u.oneCell'=true) (hlen:l.length=n*wd) (K:∀ (j:Nat) (v:Value),vs[j]? =some v->fz.cell g j=some v): HoldsR fz (chunk wd n l) wd g 0:=by
 refine HoldsR.of_get _ _ _ _ fun i r D=>?_;simp only[Aw.chunk,List.getElem?_map]at D;cases hi:(List.range n)[i]? with
 |none=>simp_all
 |some M=>
  rw[hi]at D
  obtain⟨E,he⟩:=List.getElem?_eq_some_iff.1 hi
  simp only[List.getElem_range]at he
  subst he
  simp at D;subst D
  have G:i<n:=by simpa using E
  have hmul:i*wd+wd<=n*wd:=by
   have:=Nat.mul_le_mul_right wd (show i+1<=n from G)
   rw[Nat.add_mul]at this;omega
  refine⟨by simp;omega,HoldsC.of_get _ _ _ fun j x A=>?_⟩
  rw[List.getElem?_take]at A
  split at A
  ·rw[List.getElem?_drop]at A
   obtain⟨v,I,L⟩:=J.get _ _ _ _ x A
   exact⟨v,by rw[Nat.zero_add];exact K _ v I,h1 v (List.mem_of_getElem? I),L⟩
  ·cases A
theorem SimE.newFz (h:SimE C V a w fz ρ) {e:TypeId} {cells:Array Value}:SimE C V a (w.alloc (.cells cells e)) (fz.add w.heap.size cells.toList) ρ:=by have D:=h.fz_new (Nat.le_refl _);have A:=Ext.alloc w (.cells cells e);refine h.extend A (Fz.le_add D.1) (fun c o v E=>?_) (fun c o E=>A.heap (h.fobj c o E)) (fun c G=>⟨fun o=>?_,rfl⟩);{simp only[Fz.add]at E;split at E;{simp_all};{exact A.cell (h.fcell c o v E)}};{simp only[Fz.add];grind}
end Go.Aw
end
