/- More: with more rows no fewer come. -/
import Derived.Test.YtackjebfmbnkbaaGreatDoorP47
import Derived.Test.YtackjebfmbnkbaaGreatDoorP44
set_option linter.unusedSimpArgs false
set_option linter.unusedVariables false
set_option linter.unusedSectionVars false
section
namespace Go.Al
open Go.Aw Go
theorem Fit.ins {n:Nat} {p:PlanD} (J:1<=n) (A:Fit n p):∀q∈p.ins,Fit n q:=fun q o=>by obtain⟨op,rel,name,args,aggs,ins⟩:=p;have G:=A.sz;have D:=A.rg;have E:=A.es;have hw:=A.w;have I:=rR (.mk op rel name args aggs ins);simp only[bC]at G;simp only[iK]at D;simp only[aDC]at E;simp only[PlanD.ins]at o I;exact⟨(oJ A.sh).1 q o,by have:=uM (f:=wT) o;omega,by have:=jU o;omega,aLN E.2 o,aKK D.2 o,Nat.le_trans (aRG J (by have:=bCE (p:=.mk op rel name args aggs ins) o;exact this)) A.sc⟩
mutual
def nO:PlanD->Bool
 | .mk op _ _ _ _ ins=>!decide (op=4)&& !decide (op=8)&&lF ins
def lF:List PlanD->Bool
 |[]=>true
 |p::l=>nO p&&lF l
end
theorem aAM {q:PlanD}:∀ {l:List PlanD},lF l=true->q∈l->nO q=true|x::l,h,o=>by simp only[lF,Bool.and_eq_true]at h;rcases List.mem_cons.1 o with rfl|o;{exact h.1};{exact aAM h.2 o}
def aUP (a b:Tab):Prop:=a.1=b.1/\ ∀r∈a.2,r∈b.2
def cPU (a b:Tab×Int):Prop:=b.2=0->a.2=0/\aUP a.1 b.1
theorem bGD {R S:eD}:∀ {l:List PlanD},(∀q∈l,cPU (aI R q) (aI S q))->(fK (l.map (aI S))).2=0->(fK (l.map (aI R))).2=0/\ ∀i,aUP ((fK (l.map (aI R))).1.getD i t0) ((fK (l.map (aI S))).1.getD i t0)|[],_,_=>⟨rfl,fun i=>by simp[fK];exact⟨rfl,fun r h=>h⟩⟩|q::l,h,o=>by have A:=h q (by simp);simp only[List.map_cons,fK]at o|-;by_cases c:(aI S q).2=0;{rw[if_pos c]at o|-;obtain⟨D,E⟩:=A c;rw[if_pos D];by_cases d:(fK (l.map (aI S))).2=0;{rw[if_pos d];obtain⟨i1,i2⟩:=bGD (fun x G=>h x (by simp[G])) d;rw[if_pos i1];refine⟨rfl,fun i=>?_⟩;cases i with|zero=>simpa using E|succ i=>simpa using i2 i};{rw[if_neg d]at o;exact absurd o d}};{rw[if_neg c]at o;exact absurd o c}
theorem bIU {a b:Tab} (h:aUP a b) (e:ExprD) (A:(cL b e).2=0):(cL a e).2=0/\ ∀r∈(cL a e).1,r∈(cL b e).1:=by obtain⟨h1,D⟩:=h;unfold cL at A|-;simp only at A|-;rw[qL]at A|-;rw[h1];refine⟨fun x E=>?_,fun r o=>?_⟩;{obtain⟨r,o,rfl⟩:=List.mem_map.1 E;exact A _ (List.mem_map.2 ⟨r,D r o,rfl⟩)};{obtain⟨o,hp⟩:=List.mem_filter.1 o;exact List.mem_filter.2 ⟨D r o,hp⟩}
theorem bIY {a b:Tab} (h:aUP a b) (n:ByteArray) (e:ExprD) (o:(gQ b n e).2=0):(gQ a n e).2=0/\ ∀r∈(gQ a n e).1,r∈(gQ b n e).1:=by obtain⟨h1,E⟩:=h;unfold gQ at o|-;simp only at o|-;rw[qL]at o|-;rw[h1];refine⟨fun x A=>?_,fun r D=>?_⟩;{obtain⟨r,D,rfl⟩:=List.mem_map.1 A;exact o _ (List.mem_map.2 ⟨r,E r D,rfl⟩)};{obtain⟨x,A,hp⟩:=List.mem_flatMap.1 D;exact List.mem_flatMap.2 ⟨x,E x A,hp⟩}
theorem bXQ {a b:Tab} (h:aUP a b) (es:List ExprD) (o:(cZ b es).2=0):(cZ a es).2=0/\ ∀r∈(cZ a es).1,r∈(cZ b es).1:=by obtain⟨h1,E⟩:=h;unfold cZ at o|-;simp only at o|-;rw[qL]at o|-;rw[h1];refine⟨fun x A=>?_,fun r D=>?_⟩;{obtain⟨r,D,rfl⟩:=List.mem_map.1 A;exact o _ (List.mem_map.2 ⟨r,E r D,rfl⟩)};{obtain⟨x,A,rfl⟩:=List.mem_map.1 D;exact List.mem_map.2 ⟨x,E x A,rfl⟩}
theorem bWF {a b c d:Tab} (h:aUP a c) (k:aUP b d):∀r∈mA a b,r∈mA c d:=fun r o=>by obtain⟨x,A,y,D,e,rfl⟩:=aCM.1 o;rw[h.1,k.1]at e|-;exact aCM.2 ⟨x,h.2 x A,y,k.2 y D,e,rfl⟩
theorem aPT:∀ {a b:List Tab},a.length=b.length->(∀i,aUP (a.getD i t0) (b.getD i t0))-> ∀r∈fB a,r∈fB b
 |[],_,_,_,r,o=>by simp[fB]at o
 |_::_,[],h,_,_,_=>by simp at h
 |x::a,y::b,h,A,r,o=>by simp only[fB,List.flatMap_cons,List.mem_append]at o|-;rcases o with o|o;{exact .inl ((A 0).2 r (by simpa using o))};{exact .inr (aPT (by simpa using h) (fun i=>by simpa using A (i+1)) r o)}
theorem aJY:∀ {l:List (Tab×Int)},(fK l).2=0->(fK l).1.length=l.length|[],_=>rfl|r::l,h=>by simp only[fK]at h|-;by_cases c:r.2=0;{rw[if_pos c]at h|-;by_cases d:(fK l).2=0;{rw[if_pos d];simp[aJY d]};{rw[if_neg d]at h;exact absurd h d}};{rw[if_neg c]at h;exact absurd h c}
theorem cJK {R S:eD} (G:∀s,∀o∈kX s R,o∈kX s S) (op:Int) (rel name:ByteArray) (args:List ExprD) (aggs:List ByteArray) {a b:List Tab} (I:a.length=b.length) (h:∀i,aUP (a.getD i t0) (b.getD i t0)) (J:op≠4) (K:op≠8) (A:(opR S op rel name args aggs b).2=0):(opR R op rel name args aggs a).2=0/\aUP (opR R op rel name args aggs a).1 (opR S op rel name args aggs b).1:=by
 by_cases c1:op=1;{subst c1;exact⟨rfl,rfl,fun r h=>h⟩};by_cases c2:op=2;{subst c2;refine⟨rfl,rfl,fun r L=>?_⟩;obtain⟨o,M,hm,rfl⟩:=aCC (show r∈jN args (kX rel R)from L);exact aQT hm (G _ o M)};by_cases c3:op=3;{subst c3;exact⟨rfl,by show kE _ _=kE _ _;rw[(h 0).1,(h 1).1],bWF (h 0) (h 1)⟩};by_cases c5:op=5;{subst c5;have:=bIU (h 0) _ A;exact⟨this.1,(h 0).1,this.2⟩};by_cases D:op=6;{subst D;have:=bIY (h 0) name _ A;exact⟨this.1,by show uJ _ _=uJ _ _;rw[(h 0).1],this.2⟩};by_cases E:op=7;{subst E;have:=bXQ (h 0) args A;exact⟨this.1,rfl,this.2⟩};have e:∀Q ts,opR Q op rel name args aggs ts=(([],fB ts),0):=fun Q ts=>by unfold opR;simp[c1,c2,c3,J,c5,D,E,K]
 rw[e,e];exact⟨rfl,rfl,aPT I h⟩
theorem cDF {R S:eD} {n m:Nat} (G:∀s,∀o∈kX s R,o∈kX s S) (J:aMG R n) (K:aMG S m):∀ (k:Nat) (p:PlanD),bC p<k->Fit n p->Fit m p->nO p=true->cPU (aI R p) (aI S p):=by
 intro k;induction k with
  |zero=>intro p h;omega
  |succ k Y=>
   intro p hk fn I hp E;have g:=lR J p fn;have Z:=lR K p I;have A:p.op≠4/\p.op≠8/\lF p.ins=true:=(by obtain⟨op,rel,name,args,aggs,ins⟩:=p;simp only[nO,Bool.and_eq_true,Bool.not_eq_true',decide_eq_false_iff_not]at hp;exact⟨hp.1.1,hp.1.2,hp.2⟩);have hi:∀q∈p.ins,cPU (aI R q) (aI S q):=fun q D=>Y q (by have:bC q<bC p:=(by obtain⟨op,rel,name,args,aggs,ins⟩:=p;simp only[bC];have:=jU (show q∈ins from D);omega);omega) (fn.ins J.pos q D) (I.ins K.pos q D) (aAM A.2.2 D)
   have e0:=E;rw[lC]at E;by_cases c:(fK (p.ins.map (aI S))).2=0;{rw[if_pos c]at E;obtain⟨t1,t2⟩:=bGD hi c;obtain⟨d1,d2⟩:=aFM E;obtain⟨o1,o2⟩:=cJK (R:=R) G p.op p.rel p.name p.args p.aggs (by rw[aJY t1,aJY c,List.length_map,List.length_map]) t2 A.1 A.2.1 d1;have L:aI R p=(((opR R p.op p.rel p.name p.args p.aggs (fK (p.ins.map (aI R))).1).1.1,rU (opR R p.op p.rel p.name p.args p.aggs (fK (p.ins.map (aI R))).1).1.2),0):=(by rw[lC,if_pos t1];unfold uY;rw[if_pos o1]);have M:aI S p=(((opR S p.op p.rel p.name p.args p.aggs (fK (p.ins.map (aI S))).1).1.1,rU (opR S p.op p.rel p.name p.args p.aggs (fK (p.ins.map (aI S))).1).1.2),0):=(by rw[lC,if_pos c];exact d2);have O:=aIB fn g (by rw[L]);have U:=aIB I Z (by rw[M]);rw[L]at O|-;rw[M]at U|-;refine⟨rfl,o2.1,fun r W=>?_⟩;have h1:=o2.2 r (aQQ W);obtain⟨q,D,e⟩:=(aAF _).all r h1;have:=aSQ (U q D) (O r W) e;subst this;exact D};{rw[if_neg c]at E;exact absurd E c}
structure cQA (p:PlanD) (rows more:List eM):Prop where
 bad:¬ (cC p rows).2=0-> ¬ (cC p (rows++more)).2=0
 good:(cC p rows).2=0->(cC p (rows++more)).2=0->(cC p (rows++more)).1.length<=20000000/\(cC p rows).1.length<=20000000/\(∀r∈(cC p rows).1++(cC p (rows++more)).1,okVals r)/\
  ∀n,(cC p rows).1.length+(cC p (rows++more)).1.length<n->kP n ((cC p rows).1++(cC p (rows++more)).1)=(cC p (rows++more)).1
theorem cDG {p:PlanD} {rows more:List eM} (o1:bF p (max 1 rows.length)) (o2:bF p (max 1 (rows++more).length)) (M:RowsOk rows) (O:RowsOk (rows++more)) (hp:nO p=true):cQA p rows more:=by
 have E:∀s,∀o∈kX s (aQ rows),o∈kX s (aQ (rows++more)):=fun s o S=>by obtain⟨r,D,h1,G⟩:=aRB.1 S;exact aRB.2 ⟨r,List.mem_append.2 (.inl D),h1,G⟩
 have main:∀A,Runs p (rows++more) A-> ∃t,Runs p rows t/\aUP t A:=fun A h=>by have hm:∀r∈rows,gG r.2=true:=fun r D=>h.may r (List.mem_append.2 (.inl D));have sh:=(dK.1 h.col).2;obtain⟨a,b⟩:=cDF E (M.rels hm) (O.rels h.may) _ p (Nat.lt_succ_self _) ⟨sh,o1.w,o1.sz,o1.es,o1.rg,o1.sc⟩ ⟨sh,o2.w,o2.sz,o2.es,o2.rg,o2.sc⟩ hp (by rw[h.run]);rw[h.run]at b;exact⟨_,⟨h.col,hm,Prod.ext rfl a⟩,b⟩
 refine⟨fun h G=>h ?_,fun h G=>?_⟩;{obtain⟨A,I⟩:=gP.1 G;obtain⟨t,J,_⟩:=main A I;exact gP.2 ⟨t,J⟩};{obtain⟨A,I⟩:=gP.1 G;obtain⟨t,J,_,U⟩:=main A I;have k:=J.tab o1 M;have K:=I.tab o2 O;rw[I.eq,J.eq];have L:∀r,r∈jE t.2++jE A.2↔r∈A.2:=fun r=>(by rw[List.mem_append,cU,cU];exact⟨fun h=>h.elim (U r) id,.inr⟩);refine⟨by rw[mH];exact K.count,by rw[mH];exact k.count,fun r D=>(K.rows r ((L r).1 D)).1,fun n W=>?_⟩;exact aQK (by simpa using W) (fun r D=>K.good r ((L r).1 D)) K.asc fun r=>by rw[L,cU]}
end Go.Al
end
section
open Go Go.Aw Go.Proofs
open Tryz
namespace Go.Al
set_option maxRecDepth 100000
set_option maxRecDepth 20000
instance:FT prog f31:=.n
instance:FT prog f6:=.n
attribute [local simp] aM cA aZ aR lL dW cN aFK cG aU kQ
def bCK (l:List PlanD) (k:Nat):Bool:=lF (l.take k)
theorem aNB:∀ (a b:List PlanD),lF (a++b)=(lF a&&lF b)
 |[],_=>rfl
 |p::a,b=>by simp only[List.cons_append,lF,aNB a b,Bool.and_assoc]
theorem bVA (p:PlanD):nO p=(!decide (p.op=4)&& !decide (p.op=8)&&lF p.ins):=by cases p;rw[nO];rfl
theorem cCE:∀ (n:Nat) (p:PlanD),bC p<n->bC p<=4194304->Con prog 31 [aM p] (aD (nO p)):=by intro n;induction n with|zero=>intro p h;omega|succ n J=>intro p U hp;have hlen:=lT p.ins;have L:=nB p;rw[bVA];refine Con.oc func31 fun C W Y=>?_;refine aK ?_;refine .cnd (fun c1=>?_) (fun c1=>?_);{have c1:p.op=4\/p.op=8:=(by revert c1;by_cases a:p.op=4<;>by_cases b:p.op=8<;>simp[a,b]);refine aA ?_;refine .re ?_;exact .clos (by rcases c1 with c|c<;>simp[c]) rfl};have c1:p.op≠4/\p.op≠8:=(by revert c1;by_cases a:p.op=4<;>by_cases b:p.op=8<;>simp[a,b]);have e0:(!decide (p.op=4)&& !decide (p.op=8))=true:=(by simp[c1.1,c1.2]);rw[e0,Bool.true_and];refine aA ?_;refine .block<| .loopG (fun k:Nat=>{tm:=[(1,.ptr 1 0),(3,aB k)],hp:=[(1,.cells 57 (dN p))]}) (fun k=>k<=p.ins.length/\bCK p.ins k=true) (fun k=>p.ins.length-k) 0 ⟨by omega,rfl⟩ (by simp) (fun k hk=>?_);obtain⟨M,A⟩:=hk;refine aA ?_;refine .cnd (fun o=>?_) (fun D=>?_);{have o:k<p.ins.length:=(by simpa using o);have hm:=jU (List.getElem_mem o);have O:=J p.ins[k] (by omega) (by omega);have I:bCK p.ins (k+1)=nO p.ins[k]:=(by unfold bCK at A|-;rw[List.take_succ_eq_append_getElem o,aNB,A];simp[lF]);simp only[aM]at O;refine goX [{r:=aD (nO p.ins[k])}] fun K S=>?_;simp[o];refine ck S ?_;cases E:nO p.ins[k]with|true=>rw[E]at I;refine .cf (by simp) ?_;refine aA ?_;refine⟨k+1,⟨by omega,I⟩,by omega,?_⟩;simp[aC k (by omega)]|false=>refine .ct (by simp) ?_;refine aA ?_;refine .re ?_;refine .clos ?_ rfl;have:lF p.ins=false:=(by cases h:lF p.ins with|false=>rfl|true=>rw[aAM h (List.getElem_mem o)]at E;cases E);rw[this];rfl};have D:¬k<p.ins.length:=(by simpa using D);refine .exit ?_;have G:k=p.ins.length:=(by omega);subst G;unfold bCK at A;rw[List.take_length]at A;rw[A];refine aA ?_;exact rtC
theorem bVB (p:PlanD) (hp:bC p<=4194304):Con prog 31 [aM p] (aD (nO p)):=cCE _ p (Nat.lt_succ_self _) hp
theorem Small.le {p:PlanD} {rows more:List eM} (h:Small p (rows++more)):Small p rows:=by obtain⟨a,b,c,d⟩:=h;refine⟨fun r o=>a r (List.mem_append.2 (.inl o)),b,by simp at c;omega,?_⟩;exact Nat.le_trans (Nat.pow_le_pow_left (by simp;omega) _) d
theorem moreLaw_ok (p:PlanD) (rows more:List eM) (M:bC p<=1048576) (Z:iK p) (hl:rows.length+more.length<=1048576) (O:∀r∈rows++more,iM r.2/\aJ r.2<=1048576): Con prog 6 [aM p,cN rows,cN more] (aD true):=by
 have hw:=aGF;have S:=aAY p (rows++more) (by omega) (by simp;omega) fun r A=>(O r A).2;have pl:=bVB p (by omega);have tp:=aEC p (by omega);have eF:cN (rows++more)=.rd 2 (rows.map aFK++more.map aFK):=by simp
 refine Con.oc func6 fun C hC hM=>?_;refine aK ?_;refine .seq<| .seq ?_;rw[eF]at S;refine goX [{r:=aD true},{r:=aD (kK p (rows++more))},{r:=aD (nO p)}] fun K D=>?_;simp;(repeat first|refine ob ?_ |refine⟨by intros;exact aX rfl hw,?_⟩|refine⟨by intros;exact eK rfl (by repeat(first|exact WkL.nil|refine WkL.cons (by first|exact Wk.refl _|exact Wk.nil _|exact Wk.own (WkR.refl _)) ?_)) S,?_⟩|refine⟨by intros;exact aX rfl pl,?_⟩);refine D _ ?_;refine .cnd (fun c1=>?_) (fun c1=>?_);{refine goC [{r:=aD true}] ?_;exact rtC};have c1:kK p (rows++more)=false/\nO p=true:=by revert c1;cases kK p (rows++more)<;>cases nO p<;>simp
 have s2:=rG c1.1;have s1:=s2.le;have E:RowsOk (rows++more):=⟨s2.len,fun x G=>⟨s2.vals x G,O x G⟩⟩;have I:RowsOk rows:=⟨s1.len,fun x G=>⟨s1.vals x G,O x (List.mem_append.2 (.inl G))⟩⟩;have ep:=qQ p M;have o1:bF p (max 1 rows.length):=⟨by have:=s1.w;omega,by omega,ep,Z,s1.sc⟩;have o2:bF p (max 1 (rows++more).length):=⟨by have:=s2.w;omega,by omega,ep,Z,s2.sc⟩;have J:=cDG o1 o2 I E c1.2;have r1:=kN p rows o1 I;have U:=kN p (rows++more) o2 E;rw[eF]at U;obtain⟨J1,J2⟩:=J;clear S pl c1 s1 s2 hw;generalize cC p rows=a at*;generalize cC p (rows++more)=b at*;obtain⟨L,a2⟩:=a;obtain⟨o,b2⟩:=b;simp only at J1 J2 r1 U;refine goC [{r:=aM p},{r:=.tup [aU L,aB a2]}] ?_;refine goX [{r:=aM p},{r:=.tup [aU o,aB b2]}] fun K D=>?_;simp;(repeat first|refine ob ?_ |refine⟨by intros;exact aX rfl tp,?_⟩|refine⟨by intros;exact eK rfl (by repeat(first|exact WkL.nil|refine WkL.cons (by first|exact Wk.refl _|exact Wk.nil _|exact Wk.own (WkR.refl _)) ?_)) U,?_⟩);refine D _ ?_;refine aA ?_;by_cases W:a2=0;{subst W;refine .cf (by simp) ?_;refine aA ?_;by_cases h1:b2=0;{subst h1;obtain⟨k1,k2,k3,k4⟩:=J2 rfl rfl;have Y:=bEY ((L++o).length+1) (L++o) (by omega) (by simp;omega) fun r A=>(k3 r A).row.2.2;rw[k4 _ (by simp)]at Y;rw[show aU (L++o)=.rd 1 (L.map cG++o.map cG) by simp]at Y;have sm:=H.SameRows1_ok o (by omega) fun r A=>(k3 r (List.mem_append.2 (.inr A))).row.2.2;refine .cf (by simp) ?_;refine goX [{r:=aU o}] fun K D=>?_;simp;(repeat first|refine ob ?_ |refine⟨by intros;exact eK rfl (by repeat(first|exact WkL.nil|refine WkL.cons (by first|exact Wk.refl _|exact Wk.nil _|exact Wk.own (WkR.refl _)) ?_)) Y,?_⟩);refine D _ ?_;refine goC [{r:=aD true}] ?_;exact rtC};{refine .ct (by simp[h1]) ?_;refine aA ?_;exact rtC}};{have k:=J1 W;refine .ct (by simp[W]) ?_;refine aA ?_;refine .re ?_;exact .clos (by simp[k]) rfl}
end Go.Al
end
