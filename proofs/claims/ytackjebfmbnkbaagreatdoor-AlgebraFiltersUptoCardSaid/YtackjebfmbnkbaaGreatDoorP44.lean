/- What plans come to may be: the parts. -/
import Derived.Test.YtackjebfmbnkbaaGreatDoorP42
import Derived.Test.YtackjebfmbnkbaaGreatDoorP21
import Derived.Test.YtackjebfmbnkbaaGreatDoorP43
import Derived.Test.YtackjebfmbnkbaaGreatDoorP36
import Derived.Test.YtackjebfmbnkbaaGreatDoorP18
import Derived.Test.YtackjebfmbnkbaaGreatDoorP31
set_option linter.unusedSimpArgs false
set_option linter.unusedVariables false
set_option linter.unusedSectionVars false
section
namespace Go.Al
open Go.Aw Go
theorem aTU {v:ValD}:∀ {l:List ValD},v∈l->depth v<=iP l|x::l,h=>by simp only[iP];rcases List.mem_cons.1 h with rfl|h;{omega};{have:=aTU h;omega}
theorem aZT {v:ValD}:∀ {l:List ValD},v∈l->tU l=true->aBG v=true|x::l,h,o=>by simp only[tU,Bool.and_eq_true]at o;rcases List.mem_cons.1 h with rfl|h;{exact o.1};{exact aZT h o.2}
theorem bPR {v:ValD} (h1:depth v<=64) (o:gW v=true) (A:aBG v=true):cF v=0:=by unfold cF;rw[if_neg (by omega),if_neg (by simp[o]),if_neg (by simp[A])]
theorem aKT {v x:ValD} (h:bN v) (o:x∈v.l):bN x:=by
 obtain⟨h1,A,I⟩:=h;have D:=gY h1;have G:depth v<=64:=by unfold cF at h1;split at h1;{omega};{omega}
 have E:=uE h1;rw[qP,Bool.and_eq_true]at D;rw[aIF,Bool.and_eq_true]at E;rw[bJJ]at G;rw[aQY]at A;have:=cM v;have:=bO o;have:=aTU o;exact⟨bPR (by omega) (xC o D.2) (aZT o E.2),wO o A.2,by omega⟩
def aUK (q:ValD->Prop) (l:List Bnd):Prop:=∀b∈l,q b.2
def cBA (q:ValD->Prop):Prop:=∀v,q v-> ∀x∈v.l,q x
mutual
theorem aSG {q:ValD->Prop} (D:cBA q):∀ (p:ExprD) (v:ValD) (l:List Bnd),q v->aUK q l->aUK q (dY p v l).1| .mk kind line col name I args,v,l,E,A=>by have G:=aNK D args v.l l (D v E) A;unfold dY;split;{exact A};split;{exact A};split;{split;{exact A};{intro b o;rcases List.mem_append.1 o with o|o;{exact A b o};{simp at o;subst o;exact E}}};split;{intro b o;simp at o};{exact G}
theorem aNK {q:ValD->Prop} (D:cBA q):∀ (es:List ExprD) (xs:List ValD) (l:List Bnd),(∀x∈xs,q x)->aUK q l->aUK q (dG es xs l).1
 |[],_,l,_,o=>by simpa only[dG]using o
 |_::_,[],l,_,o=>by simp only[dG];intro b A;simp at A
 |a::es,x::xs,l,E,o=>by have h1:=aSG D a x l (E x (by simp)) o;have G:=aNK D es xs (dY a x l).1 (fun y I=>E y (by simp[I])) h1;simp only[dG];split;{exact G};{intro b A;simp at A}
end
theorem bPF {q:ValD->Prop} (A:cBA q) (pat:ExprD->Bool) (p:ExprD) (v:ValD) (l:List Bnd) (D:q v) (o:aUK q l):aUK q (fN pat p v l).1:=by
 have:=aSG A p v l D o;unfold fN;repeat' split
 all_goals first|exact this|exact o|(intro b E;simp at E)
theorem aHV {q:ValD->Prop} (D:cBA q) (pat:ExprD->Bool):∀ (es:List ExprD) (xs:List ValD) (l:List Bnd),(∀x∈xs,q x)->aUK q l->aUK q (cH pat es xs l).1
 |[],_,l,_,o=>by simpa only[cH]using o
 |_::_,[],l,_,o=>by simp only[cH];first|exact o|(intro b A;simp at A)
 |a::es,x::xs,l,E,o=>by have h1:=bPF D pat a x l (E x (by simp)) o;have G:=aHV D pat es xs (fN pat a x l).1 (fun y I=>E y (by simp[I])) h1;simp only[cH];split;{exact G};{intro b A;simp at A}
theorem bCW {q:ValD->Prop} (o:cBA q) (pat:ExprD->Bool) (es:List ExprD) (xs:List ValD) (l:List Bnd) (A:∀x∈xs,q x) (D:aUK q l):aUK q (bR pat es xs l).1:=by unfold bR;split;{exact aHV o pat es xs l A D};{intro b E;simp at E}
theorem cAS {q:ValD->Prop} {s:ByteArray} {l:List Bnd} (A:aUK q l) (D:bnd s l):q (zV s l):=by obtain⟨b,o⟩:=aUI D;unfold zV;rw[o];exact A b (sR o).1
theorem aCC {ps:List ExprD} {r:List ValD}:∀ {l:Rows},r∈jN ps l-> ∃o∈l,(bR eB ps o []).2=true/\r=(bL [] ps).map fun n=>zV n (bR eB ps o []).1
 |[],h=>by simp[jN]at h
 |o::l,h=>by rw[show o::l=[o]++l from rfl,aXT,List.mem_append]at h;rcases h with h|h;{have:=aQS ps [o] 0 (by simp);simp only[List.take_zero,jN,List.nil_append]at this;rw[show[o].take (0+1)=[o]from rfl]at this;rw[this]at h;simp only[List.getElem_cons_zero]at h;split at h;{rename_i hm;exact⟨o,by simp,hm,List.mem_singleton.1 h⟩};{cases h}};{obtain⟨A,h1,D⟩:=aCC h;exact⟨A,by simp[h1],D⟩}
theorem aXR {ps:List ExprD} {l:Rows} (D:∀o∈l,∀v∈o,bN v) {r:List ValD} (E:r∈jN ps l):(∀v∈r,bN v)/\r.length=(bL [] ps).length:=by obtain⟨o,G,hm,rfl⟩:=aCC E;refine⟨fun v A=>?_,by simp⟩;obtain⟨n,I,rfl⟩:=List.mem_map.1 A;exact cAS (bCW (fun v A x J=>aKT A J) eB ps o [] (D o G) (fun b K=>by simp at K)) (aAU hm I)
theorem cIW (l:Rows):(rU l).length<=l.length:=by have:=(bGQ l l.length (Nat.le_refl _)).2;rwa [List.take_length]at this
theorem qL:∀ {l:List Int},pN l=0↔ ∀e∈l,e=0:=by
 have h:∀ (l:List Int) (f:Int),l.foldl mC f=0↔f=0/\ ∀e∈l,e=0:=by intro l;induction l with|nil=>intro f;simp|cons e l o=>intro f;rw[List.foldl_cons,o];unfold mC;by_cases he:e=0;{subst he;simp};{constructor;{rintro⟨h1,_⟩;split at h1;{exact absurd h1 he};{rename_i A;exact absurd ⟨he,.inl h1⟩ A}};{rintro⟨_,D⟩;exact absurd (D e (by simp)) he}}
 intro l;unfold pN;rw[h];simp
theorem bAK {bs:List Bnd}:∀ {es:List ExprD},(nG bs es).2=0->(nG bs es).1.length=es.length/\ ∀v∈(nG bs es).1,∃e∈es,(fH bs e).2=0/\v=(fH bs e).1
 |[],_=>by simp[nG]
 |e::es,h=>by unfold nG at h|-;split at h;{rename_i o;rw[if_pos o];obtain⟨a,b⟩:=bAK (es:=es) h;refine⟨by simp[a],fun v A=>?_⟩;rcases List.mem_cons.1 A with rfl|A;{exact⟨e,by simp,o,rfl⟩};{obtain⟨D,h1,E⟩:=b v A;exact⟨D,by simp[h1],E⟩}};{rename_i o;exact absurd h o}
theorem aCM {a b:Tab} {r:List ValD}:r∈mA a b↔ ∃x∈a.2,∃y∈b.2,hZ (gH y (vI a.1 b.1))=hZ (gH x (rF a.1 b.1))/\r=x++gH y (tM a.1 b.1):=by unfold mA byG;simp only[List.mem_flatMap,List.mem_map,List.mem_filter,decide_eq_true_eq];constructor;{rintro⟨x,o,s,⟨y,⟨A,hk⟩,rfl⟩,rfl⟩;exact⟨x,o,y,A,hk,rfl⟩};{rintro⟨x,o,y,A,hk,rfl⟩;exact⟨x,o,_,⟨y,⟨A,hk⟩,rfl⟩,rfl⟩}
theorem bWG (a b:Tab):(mA a b).length<=a.2.length*b.2.length:=by unfold mA;induction a.2 with|nil=>simp|cons x l o=>rw[List.flatMap_cons,List.length_append,List.length_map,List.length_cons,Nat.add_mul];have:(byG a.1 b (hZ (gH x (rF a.1 b.1)))).length<=b.2.length:=(by unfold byG;rw[List.length_map];exact List.length_filter_le _ _);omega
theorem aKN {α:Type} (f:α->Bool) (d:α):∀l:List α,((List.range l.length).filter fun k=>f (l.getD k d)).length=(l.filter f).length:=by
 intro l;have:(List.range l.length).map (fun k=>l.getD k d)=l:=by refine List.ext_getElem (by simp) fun i h1 o=>?_;simp at h1;simp[h1]
 have o:=congrArg (fun m=>(m.filter f).length) this;rw[<-o,List.filter_map,List.length_map];rfl
theorem bMP (a b:List ByteArray):(tM a b).length=(b.filter fun n=>!has a n).length:=aKN (fun n=>!has a n) ⟨#[]⟩ b
theorem bVC {r:List ValD} {l:List Nat} (o:∀v∈r,bN v) (h:∀i∈l,i<r.length):∀v∈gH r l,bN v:=fun v A=>o v (aKQ h A)
theorem aZE {a b:Tab} (D:∀r∈a.2,(∀v∈r,bN v)/\r.length=a.1.length) (E:∀r∈b.2,(∀v∈r,bN v)/\r.length=b.1.length) {r:List ValD} (h:r∈mA a b):(∀v∈r,bN v)/\r.length=(kE a.1 b.1).length:=by obtain⟨x,G,y,I,_,rfl⟩:=aCM.1 h;have h1:=D x G;have A:=E y I;refine⟨fun v o=>?_,by rw[List.length_append,aCE,bMP,h1.2,kE,List.length_append]⟩;rcases List.mem_append.1 o with o|o;{exact h1.1 v o};{exact bVC A.1 (fun i hi=>by rw[A.2];exact aYG hi) v o}
theorem bWI {a b:List ByteArray} (h:b.Nodup):kE a b=cJ a b:=(aDW b a h).symm
theorem cGC {rows:Rows} {i:Nat} {v:ValD} (h:v∈tW rows i) (A:∀r∈rows,i<r.length):∃r∈rows,v∈r:=by unfold tW at h;obtain⟨r,o,rfl⟩:=List.mem_map.1 h;have hi:=A r o;exact⟨r,o,by rw[List.getD_eq_getElem?_getD,List.getElem?_eq_getElem hi];exact List.getElem_mem hi⟩
theorem aLI {f:ValD->ValD->Bool}:∀ (l:List ValD) (m:ValD),l.foldl (fun m x=>if f x m=true then x else m) m=m\/l.foldl (fun m x=>if f x m=true then x else m) m∈l|[],m=>.inl rfl|x::l,m=>by rw[List.foldl_cons];rcases aLI (f:=f) l (if f x m=true then x else m)with h|h;{rw[h];split;{exact .inr (by simp)};{exact .inl rfl}};{exact .inr (by simp[h])}
theorem aSZ {l:List ValD} (h:l≠[]):l.headD v0∈l:=by cases l with|nil=>exact absurd rfl h|cons a l=>simp
theorem cDJ {l:List ValD} (h:l≠[]):cDK l∈l:=by have:=aLI (f:=fun x m=>decide (oQ x m<0)) l.tail (l.headD v0);simp only[decide_eq_true_eq]at this;rcases this with e|e;{unfold cDK;rw[e];exact aSZ h};{exact List.mem_of_mem_tail e}
theorem cDO {l:List ValD} (h:l≠[]):cDP l∈l:=by have:=aLI (f:=fun x m=>decide (0<oQ x m)) l.tail (l.headD v0);simp only[decide_eq_true_eq]at this;rcases this with e|e;{unfold cDP;rw[e];exact aSZ h};{exact List.mem_of_mem_tail e}
theorem bBR:∀ (f:Nat) (up down:List ByteArray) (s:ByteArray),lG s->(aOK f up down s).2=0->lG (aOK f up down s).1|0,_,_,_,o,_=>o|f+1,up,down,s,o,h=>by unfold aOK at h|-;split;{exact o};{rename_i c;rw[if_neg c]at h;split;{rename_i c2;rw[if_pos c2]at h;split;{rename_i c3;rw[if_pos c3]at h;exact bBR f _ _ _ (aJE c3) h};{rename_i c3;rw[if_neg c3]at h;cases h}};{rename_i c2;rw[if_neg c2]at h;split;{rename_i c3;rw[if_pos c3]at h;exact bBR f _ _ _ (aJE c3) h};{rename_i c3;rw[if_neg c3]at h;cases h}}}
end Go.Al
end
section
namespace Go.Al
open Go.Aw Go
theorem bWL (s:ByteArray):inR (oO s).1:=by unfold oO;split;{cases hp:Lib.parseIntB 64 (bl s)with|ok n=>simp only;exact aYF hp|_=>simp only;unfold inR;omega};{unfold inR;omega}
theorem bTR {l:List ValD} (h:(yB l).2=0):bN (yB l).1:=by unfold yB at h|-;split;{rename_i c;rw[if_pos c]at h;cases h};{rename_i c;rw[if_neg c]at h;split;{rename_i c2;rw[if_pos c2]at h;cases h};{rename_i c2;rw[if_neg c2]at h;have c2:(aOJ (l.headD v0).kind l).2=0:=Classical.not_not.1 c2;split;{exact aCH (bBR _ _ _ _ h48 c2)};{rename_i c3;rw[if_neg c3]at h;split;{exact oN (bWL _)};{rename_i c4;rw[if_neg c4]at h;cases h}}}}
theorem cLP {agg:ByteArray} {l:List ValD} (o:l≠[]) (D:l.length<=1099511627776) (A:∀v∈l,bN v) (h:(bKA agg l).2=0):bN (bKA agg l).1:=by unfold bKA at h|-;split;{exact oN (by unfold inR;omega)};{rename_i c;rw[if_neg c]at h;split;{exact A _ (cDJ o)};{rename_i c;rw[if_neg c]at h;split;{exact A _ (cDO o)};{rename_i c;rw[if_neg c]at h;exact bTR h}}}
theorem bNL {aggs:List ByteArray} {rows:Rows} (M:∀r∈rows,(∀v∈r,bN v)/\r.length=aggs.length) (U:rows.length<=1099511627776) (h:(nW aggs rows).2=0):∀r∈(nW aggs rows).1,(∀v∈r,bN v)/\r.length=aggs.length:=by
 intro r o;unfold nW at h o;simp only at h o;rw[qL]at h;obtain⟨k,hk,rfl⟩:=List.mem_map.1 o;rw[aSP]at hk;have I:aTA aggs rows k≠[]:=by rw[cKN];exact bDL ((eT _ _).2 hk)
 have A:∀r∈aTA aggs rows k,r∈rows:=fun r o=>(List.mem_filter.1 o).1;have O:(aTA aggs rows k).length<=rows.length:=List.length_filter_le _ _;refine⟨fun v E=>?_,by simp[aGU]⟩;obtain⟨c,J,rfl⟩:=List.mem_map.1 E;have K:c.2=0:=h _ (List.mem_flatMap.2 ⟨k,by rw[aSP];exact hk,List.mem_map.2 ⟨c,J,rfl⟩⟩);unfold aGU at J;obtain⟨i,hi,rfl⟩:=List.mem_map.1 J;have hi:i<aggs.length:=by simpa using hi
 generalize aTA aggs rows k=g at*;have D:tW g i≠[]:=by unfold tW;simpa using I
 have G:∀v∈tW g i,bN v:=fun v E=>by obtain⟨r,o,L⟩:=cGC E fun r o=>(by rw[(M r (A r o)).2];exact hi);exact(M r (A r o)).1 v L
 have S:(tW g i).length=g.length:=by simp[tW]
 unfold aOA at K|-;split;{exact G _ (aSZ D)};{rename_i c;rw[if_neg c]at K;exact cLP D (by omega) G K}
theorem bWR (aggs:List ByteArray) (rows:Rows):(nW aggs rows).1.length<=rows.length:=by unfold nW;rw[List.length_map];exact wY _ _
theorem bXH {names:List ByteArray} {n:ByteArray} {r:List ValD} {v:iL} (D:(∀v∈r,bN v)/\r.length=names.length) (G:v.2=0->bN v.1):∀q∈aLL names n r v,(∀v∈q,bN v)/\q.length=(uJ names n).length:=by intro q o;unfold aLL at o;unfold uJ;split at o;{rename_i I;split at o;{rename_i E;rw[if_pos E];split at o;{rw[List.mem_singleton.1 o];exact D};{cases o}};{rename_i E;rw[if_neg E];rw[List.mem_singleton.1 o];refine⟨fun x A=>?_,by simp[D.2]⟩;rcases List.mem_append.1 A with A|A;{exact D.1 x A};{rw[List.mem_singleton.1 A];exact G I}}};{cases o}
theorem bIQ {α β:Type} (f:α->List β) (h:∀a,(f a).length<=1):∀l:List α,(l.flatMap f).length<=l.length
 |[]=>by simp
 |a::l=>by have:=h a;have:=bIQ f h l;rw[List.flatMap_cons,List.length_append,List.length_cons];omega
mutual
def zJ:PlanD->Nat
 | .mk _ _ _ _ _ ins=>yN ins+1
def yN:List PlanD->Nat
 |[]=>0
 |p::l=>zJ p+yN l
end
mutual
def aKE:PlanD->Nat
 | .mk op _ _ _ _ ins=>(if op=2\/op=4 then 1 else 0)+aCB ins
def aCB:List PlanD->Nat
 |[]=>0
 |p::l=>aKE p+aCB l
end
theorem cCX (p:PlanD):zJ p=yN p.ins+1:=by cases p;rw[zJ];rfl
theorem bPY:∀ (l:List PlanD) (n:Nat),wNs l n<300->wNs l n=n+(l.map wN).sum
 |[],n,_=>by simp[wNs]
 |p::l,n,h=>by simp only[wNs]at h|-;split at h;{rename_i c;rw[if_pos c,bPY l _ h,List.map_cons,List.sum_cons];omega};{omega}
theorem uM {α:Type} {f:α->Nat} {x:α}:∀ {l:List α},x∈l->f x<=(l.map f).sum|y::l,h=>by rw[List.map_cons,List.sum_cons];rcases List.mem_cons.1 h with rfl|h;{omega};{have:=uM (f:=f) h;omega}
theorem bRZ:∀ (l:List ExprD) (n:Nat),eNs l n<1000->eNs l n=n+(l.map eN).sum
 |[],n,_=>by simp[eNs]
 |p::l,n,h=>by simp only[eNs]at h|-;split at h;{rename_i c;rw[if_pos c,bRZ l _ h,List.map_cons,List.sum_cons];omega};{omega}
mutual
theorem cCS:∀e:ExprD,eN e<1000->(occ e).length<=eN e| .mk kind _ _ name v args,h=>by simp only[eN]at h|-;have:=bCR args (by unfold fD;omega);unfold fD at this;simp only[occ];split;{simp;omega};{omega}
theorem bCR:∀l:List ExprD,fD l<1000->(mI l).length<=fD l
 |[],_=>by simp[mI]
 |e::l,h=>by have h1:=bRZ (e::l) _ h;unfold fD at h|-;rw[List.map_cons,List.sum_cons]at h1;have o:(e::l).length=l.length+1:=rfl;have G:=cCS e (by omega);have I:(mI l).length<=(l.map eN).sum:=(by have:∀m:List ExprD,(∀x∈m,(occ x).length<=eN x)->(mI m).length<=(m.map eN).sum:=(by intro m;induction m with|nil=>intro _;simp[mI]|cons x m A=>intro hm;have:=hm x (by simp);have:=A fun y D=>hm y (by simp[D]);simp only[mI,List.length_append,List.map_cons,List.sum_cons];omega);exact this l fun x E=>cCS x (by have:=uM (f:=eN) E;omega));simp only[mI,List.length_append];omega
end
theorem cGX (l:List ExprD):l.length<=fD l:=bOB _ _
mutual
def wT:PlanD->Nat
 | .mk _ _ _ args aggs ins=>1+args.length+(mI args).length+aggs.length+wTs ins
def wTs:List PlanD->Nat
 |[]=>0
 |p::l=>wT p+wTs l
end
theorem bPX:∀l:List PlanD,wTs l=(l.map wT).sum
 |[]=>rfl
 |p::l=>by rw[wTs,bPX l,List.map_cons,List.sum_cons]
theorem rR (p:PlanD):wT p=1+p.args.length+(mI p.args).length+p.aggs.length+(p.ins.map wT).sum:=by cases p;rw[wT,bPX];rfl
mutual
theorem cMZ:∀p:PlanD,wN p<300->wT p<=2*wN p| .mk op rel name args aggs ins,h=>by rw[cNA]at h|-;simp only[PlanD.args,PlanD.aggs,PlanD.ins]at h|-;have e:=bPY ins _ h;have:=cAG ins fun q o=>(by have:=uM (f:=wN) o;omega);have:=bCR args (by omega);have:=cGX args;rw[wT];omega
theorem cAG:∀l:List PlanD,(∀q∈l,wN q<300)->wTs l<=2*(l.map wN).sum
 |[],_=>by simp[wTs]
 |p::l,h=>by have h1:=cMZ p (h p (by simp));have A:=cAG l fun q o=>h q (by simp[o]);rw[wTs,List.map_cons,List.sum_cons];omega
end
mutual
theorem aAP:∀p:PlanD,zJ p<=wT p| .mk op rel name args aggs ins=>by have:=aYJ ins;simp only[zJ,wT];omega
theorem aYJ:∀l:List PlanD,yN l<=wTs l
 |[]=>by simp[yN]
 |p::l=>by have h1:=aAP p;have o:=aYJ l;simp only[yN,wTs];omega
end
theorem cAM (l:List ExprD):(fO [] l).length<=(mI l).length:=by have o:=qO (mI l) [];rw[lM];simp at o;omega
def aKW:List Nat->Nat
 |[]=>0
 |n::l=>max n (aKW l)
theorem bHV {n:Nat}:∀ {l:List Nat},n∈l->n<=aKW l|x::l,h=>by simp only[aKW];rcases List.mem_cons.1 h with rfl|h;{omega};{have:=bHV h;omega}
theorem cKD (l:List Nat):aKW l<=l.sum:=by induction l with|nil=>simp[aKW]|cons n l o=>simp only[aKW,List.sum_cons];omega
mutual
def scM:PlanD->Nat
 | .mk op _ _ _ _ ins=>if op=9 then aKW (pT ins)else(if op=2\/op=4 then 1 else 0)+(pT ins).sum
def pT:List PlanD->List Nat
 |[]=>[]
 |p::l=>scM p::pT l
end
theorem bGT:∀l:List PlanD,pT l=l.map scM
 |[]=>rfl
 |p::l=>by rw[pT,bGT l];rfl
theorem bCE {p q:PlanD} (h:q∈p.ins):scM q<=scM p:=by cases p with|mk op rel name args aggs ins=>rw[scM,bGT];have h1:=uM (f:=scM) (show q∈ins from h);have o:=bHV (List.mem_map.2 ⟨q,h,rfl⟩:scM q∈ins.map scM);split;{exact o};{omega}
mutual
theorem cBK:∀p:PlanD,scM p<=aKE p| .mk op rel name args aggs ins=>by have:=bQI ins;have:=cKD (pT ins);rw[scM,aKE];split<;>omega
theorem bQI:∀l:List PlanD,(pT l).sum<=aCB l
 |[]=>by simp[pT]
 |p::l=>by have:=cBK p;have:=bQI l;rw[pT,aCB,List.sum_cons];omega
end
mutual
def scN:PlanD->Nat
 | .mk op _ _ _ _ ins=>aAG ins (if op=2\/op=4 then 1 else 0)
def aAG:List PlanD->Nat->Nat
 |[],n=>n
 |p::l,n=>if n<100 then aAG l (n+scN p)else n
end
theorem cBJ (p:PlanD):scN p=aAG p.ins (if p.op=2\/p.op=4 then 1 else 0):=by cases p;rw[scN];rfl
theorem aXU (l:List PlanD) (k n:Nat) (h:k<l.length):aAG (l.drop k) n=if n<100 then aAG (l.drop (k+1)) (n+scN l[k])else n:=by rw[List.drop_eq_getElem_cons h,aAG]
theorem bGS:∀ (l:List PlanD) (n:Nat),aAG l n<100->aAG l n=n+(l.map scN).sum
 |[],n,_=>by simp[aAG]
 |p::l,n,h=>by simp only[aAG]at h|-;split at h;{rename_i c;rw[if_pos c,bGS l _ h,List.map_cons,List.sum_cons];omega};{omega}
mutual
theorem cNF:∀p:PlanD,scN p<100->aKE p=scN p| .mk op rel name args aggs ins,h=>by rw[scN]at h|-;have e:=bGS ins _ h;have:=cBI ins fun q o=>(by have:=uM (f:=scN) o;omega);rw[aKE,this,e]
theorem cBI:∀l:List PlanD,(∀q∈l,scN q<100)->aCB l=(l.map scN).sum|[],_=>rfl|p::l,h=>by have h1:=cNF p (h p (by simp));have o:=cBI l fun q A=>h q (by simp[A]);rw[aCB,List.map_cons,List.sum_cons,h1,o]
end
def kD (m:Nat):Nat->Nat
 |0=>1
 |s+1=>if kD m s<100000 then kD m s*m else kD m s
theorem aYP (m:Nat):∀s,kD m s<100000->kD m s=m ^ s
 |0,_=>by simp[kD]
 |s+1,h=>by simp only[kD]at h|-;split at h;{rename_i c;rw[if_pos c,aYP m s c,Nat.pow_succ]};{rename_i c;exact absurd h c}
theorem bMX {m:Nat} {p:PlanD} (hm:1<=m) (h:kD m (scN p)<=5000):m ^ aKE p<=5000:=by have h1:=aYP m (scN p) (by omega);rw[h1]at h;by_cases A:scN p<100;{rw[cNF p A];exact h};{have o:m=1:=(by refine Nat.le_antisymm (Nat.le_of_lt_succ (Nat.lt_of_not_le fun D=>?_)) hm;have a:2 ^ 100<=m ^ scN p:=Nat.le_trans (Nat.pow_le_pow_left D 100) (Nat.pow_le_pow_right hm (by omega));have b:(5000:Nat)<2 ^ 100:=(by decide);omega);rw[o,Nat.one_pow];decide}
def wM:List eM->Nat->Nat
 |[],n=>n
 |r::l,n=>if n<2000 then wM l (n+1+eO r.2)else n
theorem aQV (l:List eM) (k n:Nat) (h:k<l.length):wM (l.drop k) n=if n<2000 then wM (l.drop (k+1)) (n+1+eO l[k].2)else n:=by rw[List.drop_eq_getElem_cons h,wM]
theorem aXX:∀ (l:List eM) (n:Nat),wM l n<2000-> ∀r∈l,eO r.2<2000
 |[],_,_,r,o=>by cases o
 |x::l,n,h,r,o=>by simp only[wM]at h;split at h;{have hm:∀ (l:List eM) (n:Nat),n<=wM l n:=(by intro l;induction l with|nil=>intro n;exact Nat.le_refl _|cons y l A=>intro n;simp only[wM];split;exact Nat.le_trans (by omega) (A _);exact Nat.le_refl _);rcases List.mem_cons.1 o with rfl|o;{have:=hm l (n+1+eO r.2);omega};{exact aXX l _ h r o}};{omega}
def kK (p:PlanD) (rows:List eM):Bool:=(decide (2000<=wM rows 0)||decide (300<=wN p)||decide (200<rows.length))||decide (5000<kD (max 1 rows.length) (scN p))
structure Small (p:PlanD) (rows:List eM):Prop where
 vals:∀r∈rows,r.2.length<=2000
 w:wT p<600
 len:rows.length<=200
 sc:(max 1 rows.length) ^ scM p<=5000
theorem rG {p:PlanD} {rows:List eM} (h:kK p rows=false):Small p rows:=by unfold kK at h;simp only[Bool.or_eq_false_iff,decide_eq_false_iff_not]at h;obtain⟨⟨⟨h1,A⟩,D⟩,E⟩:=h;refine⟨fun r o=>?_,by have:=cMZ p (by omega);omega,by omega,Nat.le_trans (Nat.pow_le_pow_right (by omega) (cBK p)) (bMX (by omega) (by omega))⟩;have:=aXX rows 0 (by omega) r o;have:r.2.length<=eO r.2:=bLF _ _;omega
theorem aQO:∀ {l:List PlanD},(gL l).2=0->(∀q∈l,(shape q).2=0)/\(gL l).1=l.map fun q=>(shape q).1
 |[],_=>by simp[gL]
 |p::l,h=>by rw[gL]at h|-;split at h;{rename_i h1;split at h;{rename_i o;obtain⟨a,b⟩:=aQO o;rw[if_pos h1,if_pos o,b];exact⟨fun q A=>by rcases List.mem_cons.1 A with rfl|A;exact h1;exact a q A,rfl⟩};{rename_i o;exact absurd h o}};{rename_i h1;exact absurd h h1}
theorem aBV:∀ {l:List (Tab×Int)},(fK l).2=0->(∀r∈l,r.2=0)/\(fK l).1=l.map (·.1)
 |[],_=>by simp[fK]
 |p::l,h=>by rw[fK]at h|-;split at h;{rename_i h1;split at h;{rename_i o;obtain⟨a,b⟩:=aBV o;rw[if_pos h1,if_pos o,b];exact⟨fun q A=>by rcases List.mem_cons.1 A with rfl|A;exact h1;exact a q A,rfl⟩};{rename_i o;exact absurd h o}};{rename_i h1;exact absurd h h1}
end Go.Al
end
section
namespace Go.Al
open Go.Aw Go
mutual
def iK:PlanD->Prop
 | .mk _ _ _ args _ ins=>iE args/\oL ins
def oL:List PlanD->Prop
 |[]=>True
 |p::l=>iK p/\oL l
end
theorem aKK {p:PlanD}:∀ {l:List PlanD},oL l->p∈l->iK p|x::l,h,hp=>by simp only[oL]at h;rcases List.mem_cons.1 hp with rfl|hp;{exact h.1};{exact aKK h.2 hp}
theorem aHE {p:PlanD} {I:List eL} (h:(own p I).2=0):right p I=true/\ (own p I).1=(if p.op=4\/p.op=9 then I.headD gC else if p.op=7\/p.op=8 then⟨[],true,p.args.length⟩else⟨jW p I,false,(jW p I).length⟩)/\(5<=p.op->p.op<=8-> ∀s∈fO [] p.args,s∈(I.headD gC).names):=by unfold own at h|-;split at h;{cases h};{rename_i c;have c:right p I=true:=(by simpa using c);refine⟨c,?_⟩;rw[if_neg (by simp[c])];split at h;{rename_i c2;rw[if_pos c2,if_pos c2];exact⟨rfl,fun o E=>by omega⟩};{rename_i c2;rw[if_neg c2,if_neg c2];split at h;{cases h};{rename_i c3;rw[if_neg c3];have c3:5<=p.op->((fO [] p.args).all fun s=>has (I.headD gC).names s)=true:=fun o=>(by cases A:(fO [] p.args).all fun s=>has (I.headD gC).names s with|true=>rfl|false=>exact absurd ⟨o,A⟩ c3);refine⟨by split<;>rfl,fun o _ s D=>?_⟩;exact(eT _ _).1 (List.all_eq_true.1 (c3 o) s D)}}}
structure bOZ (p:PlanD) (I:List eL):Prop where
 op:1<=p.op/\p.op<=9
 n9:p.op=9->0<I.length
 n:p.op≠9->(I.length:Int)=nIn p.op
 one:p.op=5\/p.op=6->p.args.length=1
 agg:p.op=8->p.aggs.length=p.args.length
 bare:∀s∈I,s.bare=decide (p.op=9)
 wid:p.op=9-> ∀s∈I,s.width=(I.headD gC).width
 may:∀a∈p.args,may (aDI p.op) a=true
theorem aXY {p:PlanD} {I:List eL} (h:right p I=true):bOZ p I:=by
 unfold right tS wC aWE at h;simp only[Bool.and_eq_true,decide_eq_true_eq,List.all_eq_true,beq_iff_eq,Bool.or_eq_true,Bool.not_eq_true',decide_eq_false_iff_not]at h;obtain⟨⟨⟨⟨⟨⟨h1,E⟩,_⟩,⟨⟨o,_⟩,A⟩⟩,_⟩,J⟩,K⟩:=h;have o:p.op=5\/p.op=6->p.args.length=1:=fun h=>by rcases o with o|o;{simp only[Bool.or_eq_false_iff,decide_eq_false_iff_not]at o;omega};{exact o}
 refine⟨h1,fun D=>?_,fun D=>?_,o,fun L=>?_,fun s G=>(J s G).1,fun D s G=>?_,K⟩;{rw[if_pos D]at E;exact of_decide_eq_true E};{rw[if_neg D]at E;exact of_decide_eq_true E};{rcases A with A|A;{exact absurd L A};{exact A}};{rcases(J s G).2 with h|h;{exact absurd D h};{exact h}}
theorem oJ {p:PlanD} (h:(shape p).2=0):(∀q∈p.ins,(shape q).2=0)/\(own p (p.ins.map fun q=>(shape q).1)).2=0/\shape p=own p (p.ins.map fun q=>(shape q).1):=by rw[qX]at h|-;split at h;{rename_i h1;obtain⟨a,b⟩:=aQO h1;rw[b]at h;rw[if_pos h1,b];exact⟨a,h,rfl⟩};{rename_i h1;exact absurd h h1}
mutual
def aDC:PlanD->Prop
 | .mk _ _ _ args _ ins=>aL args<=1048576/\zR ins
def zR:List PlanD->Prop
 |[]=>True
 |p::l=>aDC p/\zR l
end
theorem aLN {p:PlanD}:∀ {l:List PlanD},zR l->p∈l->aDC p|x::l,h,hp=>by simp only[zR]at h;rcases List.mem_cons.1 hp with rfl|hp;{exact h.1};{exact aLN h.2 hp}
mutual
theorem qQ:∀p:PlanD,bC p<=1048576->aDC p| .mk _ _ _ args _ ins,h=>by simp only[bC]at h;simp only[aDC];exact⟨by omega,bJC ins (by omega)⟩
theorem bJC:∀l:List PlanD,eG l<=1048576->zR l
 |[],_=>by simp only[zR]
 |p::l,h=>by simp only[eG]at h;simp only[zR];exact⟨qQ p (by omega),bJC l (by omega)⟩
end
structure Fit (n:Nat) (p:PlanD):Prop where
 sh:(shape p).2=0
 w:wT p<4000
 sz:bC p<=4194000
 es:aDC p
 rg:iK p
 sc:n ^ scM p<=5000
structure aMG (R:eD) (n:Nat):Prop where
 pos:1<=n
 le:n<=1000
 len:∀s,(kX s R).length<=n
 vals:∀s,∀r∈kX s R,okVals r
def cnt (n:Nat) (p:PlanD):Nat:=if(shape p).1.bare=true then zJ p*5000 else n ^ scM p
structure Good (R:eD) (n:Nat) (p:PlanD):Prop where
 run:aUR R p
 nms:(shape p).1.names.length<=wT p
 bare:(shape p).1.bare=true->(shape p).1.names=[]
 wle:(shape p).1.width<=wT p
 wid:(shape p).1.bare=false->(shape p).1.width=(shape p).1.names.length
 tab:(aI R p).2=0->(aI R p).1.1=(shape p).1.names/\(∀r∈(aI R p).1.2,(∀v∈r,bN v)/\(r.length:Int)=(shape p).1.width)/\(aI R p).1.2.length<=cnt n p
theorem aFM {q:Tab×Int} (h:(uY q).2=0):q.2=0/\uY q=((q.1.1,rU q.1.2),0):=by unfold uY at h|-;split at h;{rename_i c;rw[if_pos c];exact⟨c,rfl⟩};{rename_i c;exact absurd h c}
structure cPV (R:eD) (n:Nat) (p:PlanD) (ts:List Tab):Prop where
 two:p.op=3-> ∃a b,ts=[a,b]/\okTab a/\okTab b/\(mA a b).length<=1099511627776:=by(intro h;first|cases h|(simp[PlanD.op]at h)|omega)
 one:4<=p.op->p.op<=8-> ∃t,ts=[t]/\okTab t:=by(intro h1 h2;simp[PlanD.op]at h1 h2)
 grp:p.op=8-> ∀t,ts=[t]->(cZ t p.args).2=0-> ∀r∈(cZ t p.args).1,r.length=p.aggs.length/\okVals r:=by(intro h;first|cases h|(simp[PlanD.op]at h)|omega)
 uni:p.op=9->(fB ts).length<=1099511627776:=by(intro h;first|cases h|(simp[PlanD.op]at h)|omega)
 res:(opR R p.op p.rel p.name p.args p.aggs ts).2=0->(opR R p.op p.rel p.name p.args p.aggs ts).1.1=(shape p).1.names/\(∀r∈(opR R p.op p.rel p.name p.args p.aggs ts).1.2,(∀v∈r,bN v)/\(r.length:Int)=(shape p).1.width)/\(opR R p.op p.rel p.name p.args p.aggs ts).1.2.length<=cnt n p
theorem Good.of {R:eD} {n:Nat} {p:PlanD} (L:Fit n p) (M:∀q∈p.ins,Good R n q) (o:aMG R n) (O:(shape p).1.names.length<=wT p) (hb:(shape p).1.bare=true->(shape p).1.names=[]) (S:(shape p).1.width<=wT p) (U:(shape p).1.bare=false->(shape p).1.width=(shape p).1.names.length) (D:bOZ p (p.ins.map fun q=>(shape q).1)) (hi:p.ins.length<=4000) (Z:(∀q∈p.ins,(aI R q).2=0)->cPV R n p (p.ins.map fun q=>(aI R q).1)) (aa:cnt n p<=1099511627776):Good R n p:=by
 have W:=L.sz;have hw:=L.w;have ac:=rR p;have J:=L.rg;have K:=L.es;obtain⟨op,rel,name,args,aggs,ins⟩:=p;simp only[bC]at W;simp only[iK]at J;simp only[aDC]at K;simp only[PlanD.op,PlanD.rel,PlanD.name,PlanD.args,PlanD.aggs,PlanD.ins]at*;have E:(fK (ins.map (aI R))).2=0->(∀q∈ins,(aI R q).2=0)/\(fK (ins.map (aI R))).1=ins.map fun q=>(aI R q).1:=fun h=>by obtain⟨a,b⟩:=aBV h;exact⟨fun q hq=>a _ (List.mem_map.2 ⟨q,hq,rfl⟩),by rw[b,List.map_map];rfl⟩
 have G:∀ {q:Tab×Int},(q.2=0->q.1.1=(shape (.mk op rel name args aggs ins)).1.names/\(∀r∈q.1.2,(∀v∈r,bN v)/\(r.length:Int)=(shape (.mk op rel name args aggs ins)).1.width)/\q.1.2.length<=cnt n (.mk op rel name args aggs ins))->q.2=0->(∀r∈q.1.2,okVals r)/\q.1.2.length<=1099511627776:=fun h A=>by obtain⟨_,I,h3⟩:=h A;exact⟨fun r D=>⟨(I r D).1,by have:=(I r D).2;omega⟩,by omega⟩
 refine⟨.mk _ (by show ins.length<=_;omega) (fun i hi=>(M i hi).run) fun A=>?_,O,hb,S,U,fun A=>?_⟩;{obtain⟨h1,I⟩:=E A;obtain⟨k1,k2,k3,k4,Y⟩:=Z h1;simp only[PlanD.ins]at I|-;rw[I];refine⟨D.op,K.1,J.1,by show aggs.length<=_;omega,⟨by have:=o.len rel;have:=o.le;show(kX rel R).length<=_;omega,fun r D=>(o.vals rel r D).row.2.2⟩,k1,k2,fun h=>?_,k3,fun h=>⟨by rw[List.length_map];omega,k4 h⟩,G Y⟩;have:=D.one h;match args,this with|[e],_=>exact⟨e,rfl⟩};{rw[aI,aKF]at A|-;by_cases c:(fK (ins.map (aI R))).2=0;{obtain⟨h1,I⟩:=E c;obtain⟨_,_,_,_,Y⟩:=Z h1;rw[if_pos c]at A|-;rw[I]at A|-;obtain⟨d1,d2⟩:=aFM A;rw[d2];obtain⟨e1,e2,e3⟩:=Y d1;exact⟨e1,fun r D=>e2 r (aQQ D),Nat.le_trans (cIW _) e3⟩};{rw[if_neg c]at A;exact absurd A c}}
end Go.Al
end
section
namespace Go.Al
open Go.Aw Go
theorem aXO {p:PlanD} (h:(shape p).2=0):bOZ p (p.ins.map fun q=>(shape q).1)/\ (shape p).1=(if p.op=4\/p.op=9 then(p.ins.map fun q=>(shape q).1).headD gC else if p.op=7\/p.op=8 then⟨[],true,p.args.length⟩else⟨jW p (p.ins.map fun q=>(shape q).1),false,(jW p (p.ins.map fun q=>(shape q).1)).length⟩)/\(5<=p.op->p.op<=8-> ∀s∈fO [] p.args,s∈((p.ins.map fun q=>(shape q).1).headD gC).names):=by obtain⟨_,o,A⟩:=oJ h;obtain⟨D,E,G⟩:=aHE o;rw[A];exact⟨aXY D,E,G⟩
theorem Good.okTab {R:eD} {n:Nat} {p:PlanD} (h:Good R n p) (E:Fit n p) (G:(shape p).1.bare=false) (I:(aI R p).2=0):okTab (aI R p).1/\(aI R p).1.2.length<=n ^ scM p/\(∀r∈(aI R p).1.2,(∀v∈r,bN v)/\r.length=(aI R p).1.1.length)/\(aI R p).1.1=(shape p).1.names:=by
 obtain⟨h1,J,A⟩:=h.tab I;have hw:=h.wid G;have K:=h.nms;have:=E.w;have:=E.sc;unfold cnt at A;rw[if_neg (by simp[G])]at A;have o:∀r∈(aI R p).1.2,(∀v∈r,bN v)/\r.length=(aI R p).1.1.length:=fun r o=>by obtain⟨a,b⟩:=J r o;refine⟨a,?_⟩;rw[h1];omega
 refine⟨⟨by rw[h1];omega,by omega,fun r D=>?_⟩,A,o,h1⟩;obtain⟨a,b⟩:=o r D;exact⟨⟨a,by rw[b,h1];omega⟩,by omega⟩
theorem aRG {n a b:Nat} (o:1<=n) (h:a<=b):n ^ a<=n ^ b:=Nat.pow_le_pow_right o h
theorem bAJ {names:List ByteArray} {rows:Rows} {es:List ExprD} (G:∀r∈rows,∀v∈r,bN v) (he:aL es<=1048576) (I:iE es) (D:(cZ (names,rows) es).2=0):∀r∈(cZ (names,rows) es).1,(∀v∈r,bN v)/\r.length=es.length:=by intro r o;unfold cZ at D o;simp only at D o;rw[qL]at D;obtain⟨x,E,rfl⟩:=List.mem_map.1 o;obtain⟨a,b⟩:=bAK (D _ (List.mem_map.2 ⟨x,E,rfl⟩));refine⟨fun v J=>?_,a⟩;obtain⟨e,A,h1,rfl⟩:=b v J;have K:=fA A;exact aBR (fun b L=>by have:=G x E b.2 (List.of_mem_zip L).2;exact⟨this.2.1,this.2.2⟩) (by omega) (sM A I) h1
theorem bWU {pat:Bool} {l:List ExprD} (h:∀a∈l,may pat a=true):kS pat l=true:=by rw[xB,List.all_eq_true];intro a o;have:=h a o;unfold may at this;rw[Bool.and_eq_true]at this;exact this.2
theorem cNR {α:Type}:∀ {l:List α},l.length=2-> ∃a b,l=[a,b]|[a,b],_=>⟨a,b,rfl⟩
theorem cCN {α:Type}:∀ {l:List α},l.length=1-> ∃a,l=[a]|[a],_=>⟨a,rfl⟩
theorem cJT {op:Int} (h:4<=op/\op<=8):nIn op=1:=by unfold nIn;rw[if_neg (by omega),if_neg (by omega),if_neg (by omega)]
mutual
theorem lR {R:eD} {n:Nat} (D:aMG R n):∀p:PlanD,Fit n p->Good R n p
 | .mk op rel name args aggs ins,J=>by
  have ac:=rR (.mk op rel name args aggs ins);have hw:=J.w;have aw:=J.sz;have W:=J.rg;have ad:=J.es;have ae:=J.sc;obtain⟨ah,_,_⟩:=oJ J.sh;obtain⟨L,A,hV⟩:=aXO J.sh;have ax:=cCX (.mk op rel name args aggs ins);simp only[bC]at aw;simp only[iK]at W;simp only[aDC]at ad;have ai:=ad.1;simp only[PlanD.op,PlanD.rel,PlanD.name,PlanD.args,PlanD.aggs,PlanD.ins]at ac ah ae A hV ax;have U:∀q∈ins,Fit n q:=fun q Y=>⟨ah q Y,by have:=uM (f:=wT) Y;omega,by have:=jU Y;omega,aLN ad.2 Y,aKK W.2 Y,Nat.le_trans (aRG D.pos (by have:=bCE (p:=.mk op rel name args aggs ins) Y;omega)) ae⟩;have K:=aXV D ins U;have ay:=L.op;have I:=L.bare;simp only[PlanD.op,PlanD.ins]at ay I;have Z:=L.n;have az:ins.length<=4000:=(by have:∀l:List PlanD,(∀q∈l,wT q<4000)->l.length<=(l.map wT).sum:=(by intro l;induction l with|nil=>intro _;simp|cons x l K=>intro h;have:=K fun q Y=>h q (by simp[Y]);have h1:=rR x;rw[List.map_cons,List.sum_cons,List.length_cons];omega);have:=this ins fun q Y=>(U q Y).w;omega);have aj:op=1\/op=2\/op=3\/(op=4\/op=5\/op=6\/op=7\/op=8)\/op=9:=(by omega);rcases aj with rfl|rfl|rfl|h48|rfl;{have hi:ins=[]:=List.eq_nil_of_length_eq_zero (by have:=Z (show(1:Int)≠9 by decide);simpa[nIn,PlanD.op,PlanD.ins]using this);subst hi;have A:(shape (.mk 1 rel name args aggs [])).1=⟨[],false,0⟩:=A;have G:cnt n (.mk 1 rel name args aggs [])=1:=(by unfold cnt;rw[A];simp[scM,pT]);refine Good.of J K D (by rw[A];simp) (fun h=>by rw[A]at h;cases h) (by rw[A];simp only;omega) (fun _=>by rw[A];rfl) L (by simp[PlanD.ins]) (fun _=>{res:=fun _=>⟨by rw[A];rfl,fun r E=>?_,by rw[G];exact Nat.le_refl 1⟩}) (by rw[G];decide);have:r=[]:=(by simpa[opR,PlanD.op]using E);subst this;rw[A];simp};{have hi:ins=[]:=List.eq_nil_of_length_eq_zero (by have:=Z (show(2:Int)≠9 by decide);simpa[nIn,PlanD.op,PlanD.ins]using this);subst hi;have A:(shape (.mk 2 rel name args aggs [])).1=⟨fO [] args,false,(fO [] args).length⟩:=A;have G:cnt n (.mk 2 rel name args aggs [])=n:=(by unfold cnt;rw[A];simp[scM,pT]);have bk:=cAM args;have ak:=aXA true args (bWU L.may);refine Good.of J K D (by rw[A];simp only;omega) (fun h=>by rw[A]at h;cases h) (by rw[A];simp only;omega) (fun _=>by rw[A]) L (by simp[PlanD.ins]) (fun _=>{res:=fun _=>⟨by rw[A];exact ak,fun r E=>?_,by rw[G];exact Nat.le_trans (aXS _ _) (D.len rel)⟩}) (by rw[G];have:=D.le;omega);obtain⟨k1,k2⟩:=aXR (fun o ho=>(D.vals rel o ho).1) (show r∈jN args (kX rel R)from E);exact⟨k1,by rw[k2,A,ak]⟩};{obtain⟨a,b,rfl⟩:=cNR (l:=ins) (by have:=Z (show(3:Int)≠9 by decide);simp[nIn,PlanD.op,PlanD.ins]at this;omega);have A:(shape (.mk 3 rel name args aggs [a,b])).1=⟨cJ (shape a).1.names (shape b).1.names,false,(cJ (shape a).1.names (shape b).1.names).length⟩:=A;have G:cnt n (.mk 3 rel name args aggs [a,b])=n ^ (scM a+scM b):=(by unfold cnt;rw[A];simp[scM,pT]);have bm:=qO (shape b).1.names (shape a).1.names;have ga:=K a (by simp);have gb:=K b (by simp);have na:=ga.nms;have nb:=gb.nms;simp only[List.map_cons,List.map_nil,List.sum_cons,List.sum_nil]at ac;have ba:(shape a).1.bare=false:=I _ (by simp);have bb:(shape b).1.bare=false:=I _ (by simp);have be:n ^ (scM a+scM b)<=5000:=(by simpa[scM,pT]using ae);refine Good.of J K D (by rw[A];simp only;omega) (fun h=>by rw[A]at h;cases h) (by rw[A];simp only;omega) (fun _=>by rw[A]) L (by simp[PlanD.ins]) (fun O=>?_) (by rw[G];omega);obtain⟨a1,a2,a3,a4⟩:=ga.okTab (U a (by simp)) ba (O a (by simp[PlanD.ins]));obtain⟨b1,b2,b3,b4⟩:=gb.okTab (U b (by simp)) bb (O b (by simp[PlanD.ins]));have a6:(mA (aI R a).1 (aI R b).1).length<=n ^ (scM a+scM b):=(by rw[Nat.pow_add];exact Nat.le_trans (bWG _ _) (Nat.mul_le_mul a2 b2));have al:kE (aI R a).1.1 (aI R b).1.1=cJ (shape a).1.names (shape b).1.names:=(by rw[a4,b4];exact bWI (oK b));exact{two:=fun _=>⟨(aI R a).1,(aI R b).1,rfl,a1,b1,by omega⟩,res:=fun _=>⟨by rw[A];exact al,fun r E=>by obtain⟨k1,k2⟩:=aZE a3 b3 (show r∈mA (aI R a).1 (aI R b).1 from E);exact⟨k1,by rw[k2,A,al]⟩,by rw[G];exact a6⟩}}
  ·obtain⟨q,rfl⟩:=cCN (l:=ins) (by have e:((ins.map fun q=>(shape q).1).length:Int)=nIn op:=Z (show op≠9 by omega);rw[cJT (by omega),List.length_map]at e;omega)
   have gq:=K q (by simp);have nq:=gq.nms;have bq:(shape q).1.bare=false:=(by have:=I (shape q).1 (by simp);rw[this];exact decide_eq_false (by omega));have wq:=gq.wid bq;simp only[List.map_cons,List.map_nil,List.sum_cons,List.sum_nil]at ac;have bz:n ^ scM q<=5000:=(U q (by simp)).sc;have bg:4<=op/\op<=8:=(by omega);have a7:scM q<=scM (.mk op rel name args aggs [q]):=bCE (p:=.mk op rel name args aggs [q]) (List.mem_singleton.2 rfl);have af:=aRG D.pos a7;have b0:1<=zJ (.mk op rel name args aggs [q]):=(by simp only[zJ];omega);have M:(aI R q).2=0->okTab (aI R q).1/\(aI R q).1.2.length<=n ^ scM q/\(∀r∈(aI R q).1.2,(∀v∈r,bN v)/\r.length=(aI R q).1.1.length)/\(aI R q).1.1=(shape q).1.names:=gq.okTab (U q (by simp)) bq;have bh:(shape q).1.names.Nodup:=oK q;have hle:=D.le;rcases h48 with rfl|rfl|rfl|rfl|rfl
   ·have A:(shape (.mk 4 rel name args aggs [q])).1=(shape q).1:=A;have G:cnt n (.mk 4 rel name args aggs [q])=n ^ scM (.mk 4 rel name args aggs [q]):=(by unfold cnt;rw[A,if_neg (by simp[bq])]);have am:n ^ scM (.mk 4 rel name args aggs [q])<=5000:=J.sc;refine Good.of J K D (by rw[A];omega) (fun h=>by rw[A,bq]at h;cases h) (by rw[A];have:=gq.wle;omega) (fun _=>by rw[A];exact wq) L (by simp[PlanD.ins]) (fun O=>?_) (by rw[G];omega);obtain⟨t1,t2,t3,t4⟩:=M (O q (by simp[PlanD.ins]));exact{one:=fun _ _=>⟨(aI R q).1,rfl,t1⟩,res:=fun _=>⟨by rw[A];exact t4,fun r E=>by
     have E:r∈aBQ R rel args (aI R q).1:=E;have:=t3 r (List.mem_filter.1 E).1;exact⟨this.1,by rw[A,this.2,t4];omega⟩,by
     rw[G];refine Nat.le_trans ?_ (Nat.le_trans t2 af);exact List.length_filter_le _ _⟩}
   ·have A:(shape (.mk 5 rel name args aggs [q])).1=⟨(shape q).1.names,false,(shape q).1.names.length⟩:=A;have G:cnt n (.mk 5 rel name args aggs [q])=n ^ scM (.mk 5 rel name args aggs [q]):=(by unfold cnt;rw[A];rfl);have am:n ^ scM (.mk 5 rel name args aggs [q])<=5000:=J.sc;refine Good.of J K D (by rw[A];simp only;omega) (fun h=>by rw[A]at h;cases h) (by rw[A];simp only;omega) (fun _=>by rw[A]) L (by simp[PlanD.ins]) (fun O=>?_) (by rw[G];omega);obtain⟨t1,t2,t3,t4⟩:=M (O q (by simp[PlanD.ins]));exact{one:=fun _ _=>⟨(aI R q).1,rfl,t1⟩,res:=fun _=>⟨by rw[A];exact t4,fun r E=>by
     have E:r∈(cL (aI R q).1 (args.headD (.mk 0 0 0 ⟨#[]⟩ v0 []))).1:=E;have:=t3 r (List.mem_filter.1 E).1;exact⟨this.1,by rw[A,this.2,t4]⟩,by
     rw[G];refine Nat.le_trans ?_ (Nat.le_trans t2 af);exact List.length_filter_le _ _⟩}
   ·have A:(shape (.mk 6 rel name args aggs [q])).1=⟨uJ (shape q).1.names name,false,(uJ (shape q).1.names name).length⟩:=A;have G:cnt n (.mk 6 rel name args aggs [q])=n ^ scM (.mk 6 rel name args aggs [q]):=(by unfold cnt;rw[A];rfl);have am:n ^ scM (.mk 6 rel name args aggs [q])<=5000:=J.sc;have hex:(uJ (shape q).1.names name).length<=(shape q).1.names.length+1:=(by unfold uJ;split<;>simp);refine Good.of J K D (by rw[A];simp only;omega) (fun h=>by rw[A]at h;cases h) (by rw[A];simp only;omega) (fun _=>by rw[A]) L (by simp[PlanD.ins]) (fun O=>?_) (by rw[G];omega);obtain⟨t1,t2,t3,t4⟩:=M (O q (by simp[PlanD.ins]));obtain⟨e,rfl⟩:=cCN (L.one (.inr rfl));exact{one:=fun _ _=>⟨(aI R q).1,rfl,t1⟩,res:=fun _=>⟨by rw[A];show uJ (aI R q).1.1 name=_;rw[t4],fun r E=>by
     have E:r∈(gQ (aI R q).1 name e).1:=E;obtain⟨x,S,E⟩:=List.mem_flatMap.1 E;have:=bXH (t3 x S) (fun h=>aBR (fun b hb=>by have:=(t3 x S).1 b.2 (List.of_mem_zip hb).2;exact⟨this.2.1,this.2.2⟩) (by simp only[aL]at ai;omega) (by simpa[iE]using W.1) h) r E
     exact⟨this.1,by rw[A,this.2,t4]⟩,by
     rw[G];refine Nat.le_trans ?_ (Nat.le_trans t2 af);exact bIQ _ (fun r=>bIZ _ _ _ _) _⟩}
   ·have A:(shape (.mk 7 rel name args aggs [q])).1=⟨[],true,args.length⟩:=A;have G:cnt n (.mk 7 rel name args aggs [q])=zJ (.mk 7 rel name args aggs [q])*5000:=(by unfold cnt;rw[A];rfl);have an:=aAP (.mk 7 rel name args aggs [q]);refine Good.of J K D (by rw[A];simp) (fun h=>by rw[A]) (by rw[A];simp only;omega) (fun h=>by rw[A]at h;cases h) L (by simp[PlanD.ins]) (fun O=>?_) (by rw[G];omega);obtain⟨t1,t2,t3,t4⟩:=M (O q (by simp[PlanD.ins]));exact{one:=fun _ _=>⟨(aI R q).1,rfl,t1⟩,res:=fun h=>⟨by rw[A];rfl,fun r E=>by
     have:=bAJ (names:=(aI R q).1.1) (rows:=(aI R q).1.2) (fun r E=>(t3 r E).1) (by omega) W.1 h r E;exact⟨this.1,by rw[A,this.2]⟩,by
     rw[G];have e:(cZ (aI R q).1 args).1.length=(aI R q).1.2.length:=List.length_map _;show(cZ (aI R q).1 args).1.length<=_;omega⟩}
   {have A:(shape (.mk 8 rel name args aggs [q])).1=⟨[],true,args.length⟩:=A;have G:cnt n (.mk 8 rel name args aggs [q])=zJ (.mk 8 rel name args aggs [q])*5000:=(by unfold cnt;rw[A];rfl);have an:=aAP (.mk 8 rel name args aggs [q]);have ao:aggs.length=args.length:=L.agg rfl;refine Good.of J K D (by rw[A];simp) (fun h=>by rw[A]) (by rw[A];simp only;omega) (fun h=>by rw[A]at h;cases h) L (by simp[PlanD.ins]) (fun O=>?_) (by rw[G];omega);obtain⟨t1,t2,t3,t4⟩:=M (O q (by simp[PlanD.ins]));have ag:=bAJ (names:=(aI R q).1.1) (rows:=(aI R q).1.2) (es:=args) (fun r E=>(t3 r E).1) (by omega) W.1;have el:(cZ (aI R q).1 args).1.length=(aI R q).1.2.length:=List.length_map _;have ap:∀t:Tab,[(aI R q).1]=[t]->(cZ t args).2=0-> ∀r∈(cZ t args).1,r.length=aggs.length/\okVals r:=(by intro t ht h r E;cases ht;have:=ag h r E;exact⟨by rw[this.2];exact ao.symm,this.1,by omega⟩);have aq:(opR R 8 rel name args aggs [(aI R q).1]).2=0->(opR R 8 rel name args aggs [(aI R q).1]).1.1=(shape (.mk 8 rel name args aggs [q])).1.names/\(∀r∈(opR R 8 rel name args aggs [(aI R q).1]).1.2,(∀v∈r,bN v)/\(r.length:Int)=(shape (.mk 8 rel name args aggs [q])).1.width)/\(opR R 8 rel name args aggs [(aI R q).1]).1.2.length<=cnt n (.mk 8 rel name args aggs [q]):=(by intro h;rw[cNH]at h|-;by_cases h8:(cZ (aI R q).1 args).2=0;{rw[if_pos h8]at h|-;have hg:=bNL (aggs:=aggs) (fun r E=>⟨(ag h8 r E).1,by rw[(ag h8 r E).2,ao]⟩) (by rw[el];omega) h;have b6:=bWR aggs (cZ (aI R q).1 args).1;exact⟨by rw[A],fun r E=>⟨(hg r E).1,by rw[A,(hg r E).2];simp only;omega⟩,by rw[G];simp only;omega⟩};{rw[if_neg h8]at h;exact absurd h h8});exact{one:=fun _ _=>⟨(aI R q).1,rfl,t1⟩,grp:=fun _=>ap,res:=aq}}
  ·have A:(shape (.mk 9 rel name args aggs ins)).1=(ins.map fun q=>(shape q).1).headD gC:=A;obtain⟨q,l,rfl⟩:∃q l,ins=q::l:=(by have:=L.n9 rfl;cases ins with|nil=>cases this|cons q l=>exact⟨q,l,rfl⟩);have A:(shape (.mk 9 rel name args aggs (q::l))).1=(shape q).1:=A;have au:∀x∈q::l,(shape x).1.bare=true:=fun x S=>I _ (List.mem_map.2 ⟨x,S,rfl⟩);have a9:∀x∈q::l,(shape x).1.width=(shape q).1.width:=fun x S=>L.wid rfl _ (List.mem_map.2 ⟨x,S,rfl⟩);have gq:=K q (by simp);have nq:=gq.nms;have wq:=gq.wle;have bq:=au q (by simp);have G:cnt n (.mk 9 rel name args aggs (q::l))=zJ (.mk 9 rel name args aggs (q::l))*5000:=(by unfold cnt;rw[A,bq];rfl);have an:=aAP (.mk 9 rel name args aggs (q::l));have b7:=uM (f:=wT) (show q∈q::l by simp);refine Good.of J K D (by rw[A];omega) (fun h=>by rw[A];exact gq.bare bq) (by rw[A];omega) (fun h=>by rw[A,bq]at h;cases h) L az (fun O=>?_) (by rw[G];omega);have av:(fB ((q::l).map fun q=>(aI R q).1)).length<=yN (q::l)*5000:=(by have:∀m:List PlanD,(∀x∈m,(aI R x).1.2.length<=zJ x*5000)->(fB (m.map fun q=>(aI R q).1)).length<=yN m*5000:=(by intro m;induction m with|nil=>intro _;simp[fB]|cons x m K=>intro h;have h1:=h x (by simp);have h2:=K fun y hy=>h y (by simp[hy]);unfold fB at h2|-;rw[List.map_cons,List.flatMap_cons,List.length_append,yN,Nat.add_mul];omega);refine this _ fun x S=>?_;have:=((K x S).tab (O x S)).2.2;unfold cnt at this;rwa [if_pos (au x S)]at this);exact{uni:=fun _=>Nat.le_trans av (by omega),res:=fun _=>⟨by rw[A,gq.bare bq];rfl,fun r E=>by
    have E:r∈fB ((q::l).map fun q=>(aI R q).1):=E;unfold fB at E;obtain⟨t,ht,E⟩:=List.mem_flatMap.1 E;obtain⟨x,S,rfl⟩:=List.mem_map.1 ht;have:=((K x S).tab (O x S)).2.1 r E;exact⟨this.1,by rw[this.2,A];exact a9 x S⟩,by
    rw[G];exact Nat.le_trans av (by omega)⟩}
theorem aXV {R:eD} {n:Nat} (o:aMG R n):∀l:List PlanD,(∀q∈l,Fit n q)-> ∀q∈l,Good R n q
 |[],_,q,A=>by cases A
 |p::l,h,q,A=>by have h1:=lR o p (h p (by simp));have D:=aXV o l fun q A=>h q (by simp[A]);rcases List.mem_cons.1 A with e|A;{rw[e];exact h1};{exact D q A}
end
end Go.Al
end
section
namespace Go.Al
open Go.Aw Go Go.Proofs
open Tryz
theorem bQM (s:ByteArray) (rows:List eM):kX s (aQ rows)=(pK lK rows s).map (·.2):=by
 have o:∀ks:List ByteArray,(ks.map fun k=>(k,(pK lK rows k).map (·.2))).find? (fun p=>decide (s=p.1))=if has ks s=true then some (s,(pK lK rows s).map (·.2))else none:=by intro ks;induction ks with|nil=>rfl|cons k ks A=>rw[List.map_cons,List.find?_cons,A];by_cases h:s=k;{subst h;simp[has]};{have D:¬k=s:=fun e=>h e.symm;have e:has (k::ks) s=has ks s:=(by show(decide (k=s)||has ks s)=_;rw[decide_eq_false D];rfl);rw[e];simp[h]}
 unfold kX aQ;rw[o];by_cases h:has (dJ lK rows) s=true;{rw[if_pos h];rfl};{rw[if_neg h,aLH h];rfl}
theorem aRB {s:ByteArray} {rows:List eM} {o:List ValD}:o∈kX s (aQ rows)↔ ∃r∈rows,r.1=s/\r.2=o:=by rw[bQM];simp only[List.mem_map,pK,List.mem_filter,decide_eq_true_eq];constructor;{rintro⟨r,⟨h1,A⟩,rfl⟩;exact⟨r,h1,A,rfl⟩};{rintro⟨r,h1,A,rfl⟩;exact⟨r,⟨h1,A⟩,rfl⟩}
structure RowsOk (rows:List eM):Prop where
 len:rows.length<=200
 vals:∀r∈rows,r.2.length<=2000/\iM r.2/\aJ r.2<=1048576
theorem RowsOk.rels {rows:List eM} (h:RowsOk rows) (hm:∀r∈rows,gG r.2=true):aMG (aQ rows) (max 1 rows.length):=by have J:=h.len;refine⟨by omega,by omega,fun s=>?_,fun s o G=>?_⟩;{rw[bQM,List.length_map];have:=xA lK rows s;omega};{obtain⟨r,E,_,rfl⟩:=aRB.1 G;obtain⟨h1,I,K⟩:=h.vals r E;have A:=uX.2 (hm r E);exact⟨fun v D=>⟨A v D,wO D I,by have:=bO D;omega⟩,by omega⟩}
structure bF (p:PlanD) (n:Nat):Prop where
 w:wT p<4000
 sz:bC p<=4194000
 es:aDC p
 rg:iK p
 sc:n ^ scM p<=5000
theorem dK {p:PlanD}:(bV p).2.2=0↔cS p<=64/\(shape p).2=0:=by unfold bV;split;{constructor;{intro h;cases h};{intro h;omega}};{split;{rename_i h1 o;exact⟨fun _=>⟨by omega,o⟩,fun _=>rfl⟩};{rename_i h1 o;exact⟨fun h=>absurd h o,fun h=>absurd h.2 o⟩}}
theorem bCF {p:PlanD} {rows:List eM} (hp:bF p (max 1 rows.length)) (o:RowsOk rows) (h1:(bV p).2.2=0) (A:∀r∈rows,gG r.2=true):Good (aQ rows) (max 1 rows.length) p:=
 lR (o.rels A) p ⟨(dK.1 h1).2,hp.w,hp.sz,hp.es,hp.rg,hp.sc⟩
theorem Good.rows {R:eD} {n:Nat} {p:PlanD} (h:Good R n p) (hw:wT p<4000) (I:n ^ scM p<=5000) (E:(aI R p).2=0):(∀r∈(aI R p).1.2,okVals r)/\(aI R p).1.2.length<=20000000:=by obtain⟨_,o,A⟩:=h.tab E;have G:=h.wle;refine⟨fun r D=>⟨(o r D).1,by have:=(o r D).2;omega⟩,?_⟩;have J:=aAP p;unfold cnt at A;split at A<;>omega
mutual
theorem bHA:∀e:ExprD,sE e->qF e| .mk _ _ _ _ v args,h=>by simp only[sE]at h;rw[qF];exact⟨by have:=h.1;rw[aQY]at this;exact this.1,vH args h.2⟩
theorem vH:∀l:List ExprD,iE l->kI l
 |[],_=>by rw[kI];trivial
 |e::l,h=>by simp only[iE]at h;rw[kI];exact⟨bHA e h.1,vH l h.2⟩
end
mutual
theorem oM:∀p:PlanD,iK p->aAI p| .mk _ _ _ args _ ins,h=>by simp only[iK]at h;rw[aAI];exact⟨vH args h.1,aDH ins h.2⟩
theorem aDH:∀l:List PlanD,oL l->uP l
 |[],_=>by rw[uP];trivial
 |e::l,h=>by simp only[oL]at h;rw[uP];exact⟨oM e h.1,aDH l h.2⟩
end
theorem kN (p:PlanD) (rows:List eM) (hp:bF p (max 1 rows.length)) (o:RowsOk rows):Con prog 28 [.val (.pointer none),aM p,cN rows] (.tup [aU (cC p rows).1,aB (cC p rows).2]):=
 cPW p rows hp.sz (oM p hp.rg) (by have:=o.len;omega) (fun r h=>by have:=(o.vals r h).2.2;omega) fun h1 A=>by
  have g:=bCF hp o h1 A
  exact⟨g.run,fun D=>by
   obtain⟨a,b⟩:=g.rows hp.w hp.sc D
   exact⟨a,by omega⟩⟩
structure Runs (p:PlanD) (rows:List eM) (t:Tab):Prop where
 col:(bV p).2.2=0
 may:∀r∈rows,gG r.2=true
 run:aI (aQ rows) p=(t,0)
theorem gP {p:PlanD} {rows:List eM}:(cC p rows).2=0↔ ∃t,Runs p rows t:=by unfold cC;by_cases h1:(bV p).2.2=0;{rw[if_neg (by simpa using h1)];by_cases o:(rows.all fun r=>gG r.2)=false;{rw[if_pos o];constructor;{intro h;cases h};{rintro⟨t,_,h,_⟩;rw[List.all_eq_true.2 h]at o;cases o}};{rw[if_neg o];have o:(rows.all fun r=>gG r.2)=true:=(by simpa using o);rw[List.all_eq_true]at o;by_cases A:(aI (aQ rows) p).2=0;{rw[if_pos A];exact⟨fun _=>⟨(aI (aQ rows) p).1,h1,o,Prod.ext rfl A⟩,fun _=>rfl⟩};{rw[if_neg A];exact⟨fun h=>absurd h A,fun⟨t,_,_,h⟩=>absurd (by rw[h]) A⟩}}};{rw[if_pos h1];exact⟨fun h=>absurd h h1,fun⟨t,h,_,_⟩=>absurd h h1⟩}
theorem Runs.eq {p:PlanD} {rows:List eM} {t:Tab} (h:Runs p rows t):cC p rows=(jE t.2,0):=by unfold cC;rw[if_neg (by simpa using h.col),if_neg (by rw[List.all_eq_true.2 h.may];decide),h.run];rfl
theorem bKK {p:PlanD} {rows:List eM} (h:¬ (cC p rows).2=0):(cC p rows).1=[]:=by unfold cC at h|-;split;{rfl};{rename_i h1;rw[if_neg h1]at h;split;{rfl};{rename_i o;rw[if_neg o]at h;split;{rename_i A;rw[if_pos A]at h;exact absurd rfl h};{rfl}}}
structure TabOk (p:PlanD) (t:Tab):Prop where
 names:t.1=(shape p).1.names
 nd:t.1.Nodup
 rows:∀r∈t.2,okVals r/\(r.length:Int)=(shape p).1.width
 once:t.2.Nodup
 count:t.2.length<=20000000
 wid:(shape p).1.bare=false->(shape p).1.width=t.1.length
theorem bGW (R:eD) (p:PlanD):∃l,(aI R p).1.2=rU l\/(aI R p).1.2=[]:=by rw[lC];split;{unfold uY;split;{exact⟨_,.inl rfl⟩};{exact⟨[],.inr rfl⟩}};{exact⟨[],.inr rfl⟩}
theorem Runs.tab {p:PlanD} {rows:List eM} {t:Tab} (h:Runs p rows t) (hp:bF p (max 1 rows.length)) (o:RowsOk rows):TabOk p t:=by
 have g:=bCF hp o h.col h.may;have A:(aI (aQ rows) p).2=0:=by rw[h.run]
 obtain⟨a,b⟩:=g.rows hp.w hp.sc A;obtain⟨c1,c2,c3⟩:=g.tab A;have D:=bGW (aQ rows) p;rw[h.run]at a b c1 c2 D;refine⟨c1,by rw[c1];exact oK p,fun r o=>⟨a r o,(c2 r o).2⟩,?_,b,fun E=>by rw[c1];exact g.wid E⟩;obtain⟨l,e|e⟩:=D;{rw[e];exact nN l};{rw[e];exact List.nodup_nil}
theorem TabOk.good {p:PlanD} {t:Tab} (h:TabOk p t):∀r∈t.2,cD r:=fun r o=>(h.rows r o).1.row.1
theorem TabOk.asc {p:PlanD} {t:Tab} (h:TabOk p t):Asc (jE t.2):=qE h.good h.once
end Go.Al
end
section
namespace Go.Al
open Go.Aw Go
def iZ (N:List ByteArray) (r:List ValD) (n:ByteArray):ValD:=r.getD (pD N n) v0
theorem aHD {N:List ByteArray} {n:ByteArray} (h:n∈N):∃hi:pD N n<N.length,N[pD N n]=n:=by have hi:pD N n<N.length:=List.findIdx_lt_length_of_exists ⟨n,h,by simp⟩;exact⟨hi,of_decide_eq_true (p:=N[pD N n]=n) (List.findIdx_getElem (w:=hi))⟩
theorem bQP {N:List ByteArray} (h:N.Nodup) {i:Nat} (hi:i<N.length):pD N N[i]=i:=by obtain⟨h1,A⟩:=aHD (List.getElem_mem hi);have hp:=List.pairwise_iff_getElem.1 h;rcases Nat.lt_trichotomy (pD N N[i]) i with o|o|o;{exact absurd A (hp _ _ h1 hi o)};{exact o};{exact absurd A.symm (hp _ _ hi h1 o)}
theorem aBC {N:List ByteArray} {f:ByteArray->ValD} {n:ByteArray} (h:n∈N):iZ N (N.map f) n=f n:=by obtain⟨h1,o⟩:=aHD h;unfold iZ;rw[List.getD_eq_getElem?_getD,List.getElem?_map,List.getElem?_eq_getElem h1,o];rfl
theorem aHX {N:List ByteArray} (h:N.Nodup) {r:List ValD} (o:r.length=N.length):N.map (iZ N r)=r:=by
 refine List.ext_getElem (by simp[o]) fun i h1 A=>?_;have hi:i<N.length:=by simpa using h1
 rw[List.getElem_map];unfold iZ;rw[bQP h hi,List.getD_eq_getElem?_getD,List.getElem?_eq_getElem A];rfl
theorem aYE (A B:List ByteArray) (x:List ValD):gH x (rF A B)=(B.filter fun n=>has A n).map (iZ A x):=by unfold gH rF;rw[List.map_map];rfl
theorem uQ {B:List ByteArray} (o:B.Nodup) (y:List ValD) (p:ByteArray->Bool):gH y ((List.range B.length).filter fun k=>p (B.getD k ⟨#[]⟩))=(B.filter p).map (iZ B y):=by
 have A:B=(List.range B.length).map fun k=>B.getD k ⟨#[]⟩:=by refine List.ext_getElem (by simp) fun i h1 E=>?_;simp[h1]
 have D:B.filter p=((List.range B.length).filter fun k=>p (B.getD k ⟨#[]⟩)).map fun k=>B.getD k ⟨#[]⟩:=by (conv=>lhs;rw[A]);rw[List.filter_map];rfl
 rw[D,List.map_map];unfold gH;refine List.map_congr_left fun k hk=>?_;have hk:k<B.length:=by simpa using(List.mem_filter.1 hk).1
 simp only[Function.comp];unfold iZ;rw[show B.getD k ⟨#[]⟩=B[k] by simp[hk],bQP o hk]
def Tab.In (t:Tab) (f:ByteArray->ValD):Prop:=t.1.map f∈t.2
structure Tame (t:Tab):Prop where
 nd:t.1.Nodup
 rows:∀r∈t.2,okVals r/\r.length=t.1.length
theorem Tame.mem {t:Tab} (h:Tame t) (r:List ValD):r∈t.2↔ ∃f,r=t.1.map f/\t.In f:=by constructor;{intro o;have e:=aHX h.nd (h.rows r o).2;exact⟨iZ t.1 r,e.symm,by unfold Tab.In;rw[e];exact o⟩};{rintro⟨f,rfl,A⟩;exact A}
theorem aLE {a b:List ByteArray} {n:ByteArray}:n∈kE a b↔n∈a\/n∈b:=by unfold kE;rw[List.mem_append,List.mem_filter];constructor;{rintro(h|h);{exact .inl h};{exact .inr h.1}};{rintro(h|h);{exact .inl h};{by_cases o:n∈a;{exact .inl o};{exact .inr ⟨h,by simpa[<-eT]using o⟩}}}
theorem yR {N:List ByteArray} {f g:ByteArray->ValD}:N.map f=N.map g↔ ∀n∈N,f n=g n:=List.map_inj_left
theorem bWH {a b:Tab} (M:Tame a) (E:Tame b) (r:List ValD):r∈mA a b↔ ∃f,r=(kE a.1 b.1).map f/\a.In f/\b.In f:=by rw[aCM];constructor;{rintro⟨x,O,y,S,hk,rfl⟩;have U:=M.rows x O;have J:=E.rows y S;rw[aYE,show vI a.1 b.1=(List.range b.1.length).filter fun k=>has a.1 (b.1.getD k ⟨#[]⟩)from rfl,uQ E.nd]at hk;rw[show tM a.1 b.1=(List.range b.1.length).filter fun k=>!has a.1 (b.1.getD k ⟨#[]⟩)from rfl,uQ E.nd y fun n=>!has a.1 n];have ex:=aHX M.nd U.2;have W:=aHX E.nd J.2;have G:∀ (v:ValD),v∈(b.1.filter fun n=>has a.1 n).map (iZ b.1 y)->v∈y:=fun v A=>(by obtain⟨n,o,rfl⟩:=List.mem_map.1 A;have:=List.mem_map_of_mem (f:=iZ b.1 y) (List.mem_filter.1 o).1;rwa [W]at this);have D:∀ (v:ValD),v∈(b.1.filter fun n=>has a.1 n).map (iZ a.1 x)->v∈x:=fun v A=>(by obtain⟨n,o,rfl⟩:=List.mem_map.1 A;have:=List.mem_map_of_mem (f:=iZ a.1 x) ((eT _ _).1 (List.mem_filter.1 o).2);rwa [ex]at this);have Y:(b.1.filter fun n=>has a.1 n).length<=16384:=(by have:=List.length_filter_le (fun n=>has a.1 n) b.1;have:=J.1.2;omega);have I:=aSQ (okVals.row ⟨fun v A=>J.1.1 v (G v A),by simpa using Y⟩) (okVals.row ⟨fun v A=>U.1.1 v (D v A),by simpa using Y⟩) hk;rw[yR]at I;refine⟨fun n=>if has a.1 n=true then iZ a.1 x n else iZ b.1 y n,?_,?_,?_⟩;{unfold kE;rw[List.map_append];congr 1;{rw[<-ex];refine List.map_congr_left fun n o=>?_;rw[if_pos ((eT _ _).2 o),ex]};{refine List.map_congr_left fun n o=>?_;have:=(List.mem_filter.1 o).2;rw[if_neg (by simpa using this)]}};{unfold Tab.In;have:a.1.map (fun n=>if has a.1 n=true then iZ a.1 x n else iZ b.1 y n)=x:=(by rw[<-ex];refine List.map_congr_left fun n o=>?_;rw[if_pos ((eT _ _).2 o),ex]);rw[this];exact O};{unfold Tab.In;have:b.1.map (fun n=>if has a.1 n=true then iZ a.1 x n else iZ b.1 y n)=y:=(by (conv=>rhs;rw[<-W]);refine List.map_congr_left fun n o=>?_;split;{rename_i h;exact(I n (List.mem_filter.2 ⟨o,h⟩)).symm};{rfl});rw[this];exact S}};{rintro⟨f,rfl,K,L⟩;refine⟨a.1.map f,K,b.1.map f,L,?_,?_⟩;{rw[aYE,show vI a.1 b.1=(List.range b.1.length).filter fun k=>has a.1 (b.1.getD k ⟨#[]⟩)from rfl,uQ E.nd];congr 1;refine List.map_congr_left fun n o=>?_;obtain⟨h1,Z⟩:=List.mem_filter.1 o;rw[aBC h1,aBC ((eT _ _).1 Z)]};{rw[show tM a.1 b.1=(List.range b.1.length).filter fun k=>!has a.1 (b.1.getD k ⟨#[]⟩)from rfl,uQ E.nd _ fun n=>!has a.1 n,kE,List.map_append];congr 1;refine List.map_congr_left fun n o=>?_;rw[aBC (List.mem_filter.1 o).1]}}
def cKK (a b:Tab):Tab:=(kE a.1 b.1,rU (mA a b))
theorem cKJ {a b:Tab} (G:Tame a) (I:Tame b) (J:Tame (cKK a b)) (D:∀r∈mA a b,nC r) (f:ByteArray->ValD):(cKK a b).In f↔a.In f/\b.In f:=by unfold Tab.In cKK;rw[wJ D,bWH G I];constructor;{rintro⟨g,o,h1,A⟩;simp only at o;rw[yR]at o;unfold Tab.In at h1 A;rw[yR.2 fun n E=>o n (aLE.2 (.inl E)),yR.2 fun n E=>o n (aLE.2 (.inr E))];exact⟨h1,A⟩};{rintro⟨h1,A⟩;exact⟨f,rfl,h1,A⟩}
def aRW (X Y:List ByteArray) (l:Rows):Rows:=kP (l.length+1) (l.map fun r=>Y.map (iZ X r))
theorem cDD {s t:Tab} (G:Tame s) (I:Tame t) (A:t.2.Nodup) (J:∀n,n∈s.1↔n∈t.1) (h:∀f,s.In f↔t.In f):aRW s.1 t.1 (jE s.2)=jE t.2:=by
 have K:∀r∈t.2,cD r:=fun r D=>(I.rows r D).1.row.1;have hm:∀r,r∈(jE s.2).map (fun r=>t.1.map (iZ s.1 r))↔r∈t.2:=by intro r;rw[List.mem_map,I.mem];constructor;{rintro⟨x,L,rfl⟩;obtain⟨f,rfl,E⟩:=(G.mem x).1 (cU.1 L);exact⟨f,List.map_congr_left fun n o=>aBC ((J n).2 o),(h f).1 E⟩};{rintro⟨f,rfl,E⟩;exact⟨s.1.map f,cU.2 ((G.mem _).2 ⟨f,rfl,(h f).2 E⟩),List.map_congr_left fun n o=>aBC ((J n).2 o)⟩}
 unfold aRW;exact aQK (by simp) (fun r D=>K r ((hm r).1 D)) (qE K A) fun r=>by rw[cU,hm]
theorem cIY {s t:Tab} (A:Tame s) (D:Tame t) (h1:s.2.Nodup) (I:t.2.Nodup) (J:s.1=[]) (E:t.1=[]) (h:∀f,s.In f↔t.In f):jE s.2=jE t.2:=by refine Asc.unique (fun r o=>(A.rows r (cU.1 o)).1.row.1) (fun r o=>(D.rows r (cU.1 o)).1.row.1) (qE (fun r o=>(A.rows r o).1.row.1) h1) (qE (fun r o=>(D.rows r o).1.row.1) I) fun r=>?_;rw[cU,cU,A.mem,D.mem,J,E];constructor;{rintro⟨f,e,G⟩;exact⟨f,e,(h f).1 G⟩};{rintro⟨f,e,G⟩;exact⟨f,e,(h f).2 G⟩}
end Go.Al
end
section
namespace Go.Al
open Go.Aw Go
def aS (a b:PlanD):PlanD:=.mk 3 ⟨#[]⟩ ⟨#[]⟩ [] [] [a,b]
def pU:PlanD:=.mk 1 ⟨#[]⟩ ⟨#[]⟩ [] [] []
structure Dok (R:eD) (p:PlanD):Prop where
 sh:(shape p).2=0
 bare:(shape p).1.bare=false
 run:(aI R p).2=0
theorem aQP {a b:PlanD} (o:(shape a).2=0) (A:(shape b).2=0) (D:(shape a).1.bare=false) (E:(shape b).1.bare=false):shape (aS a b)=(⟨cJ (shape a).1.names (shape b).1.names,false,(cJ (shape a).1.names (shape b).1.names).length⟩,0):=by
 have G:=sL [a,b] (by simp[o,A]);have I:right (aS a b) [(shape a).1,(shape b).1]=true:=by simp[right,tS,sG,wC,aWE,aS,PlanD.op,PlanD.rel,PlanD.name,PlanD.args,PlanD.aggs,nIn,aDI,D,E]
 rw[qX];rw[show(aS a b).ins=[a,b]from rfl,G];simp only[if_true,List.map_cons,List.map_nil];unfold own;rw[I];rfl
theorem aDG {a b:PlanD} (h:(shape (aS a b)).2=0):(shape a).2=0/\(shape b).2=0/\(shape a).1.bare=false/\(shape b).1.bare=false:=by obtain⟨h1,_,_⟩:=oJ h;obtain⟨o,_,_⟩:=aXO h;exact⟨h1 a (by simp[aS,PlanD.ins]),h1 b (by simp[aS,PlanD.ins]),o.bare (shape a).1 (by simp[aS,PlanD.ins]),o.bare (shape b).1 (by simp[aS,PlanD.ins])⟩
theorem wK {R:eD} {a b:PlanD} (o:(aI R a).2=0) (A:(aI R b).2=0):aI R (aS a b)=(cKK (aI R a).1 (aI R b).1,0):=by have D:=qC [aI R a,aI R b] (by simp[o,A]);rw[lC,show(aS a b).ins.map (aI R)=[aI R a,aI R b]from rfl,D];rfl
theorem Dok.join {R:eD} {a b:PlanD}:Dok R (aS a b)↔Dok R a/\Dok R b:=by constructor;{rintro⟨h1,O,o⟩;obtain⟨D,E,G,I⟩:=aDG h1;have A:(aI R a).2=0/\(aI R b).2=0:=(by rw[lC,show(aS a b).ins.map (aI R)=[aI R a,aI R b]from rfl]at o;by_cases c:(fK [aI R a,aI R b]).2=0;{obtain⟨t,_⟩:=aBV c;exact⟨t _ (by simp),t _ (by simp)⟩};{rw[if_neg c]at o;exact absurd o c});exact⟨⟨D,G,A.1⟩,E,I,A.2⟩};{rintro⟨⟨J,a2,a3⟩,K,L,M⟩;have:=aQP J K a2 L;exact⟨by rw[this],by rw[this],by rw[wK a3 M]⟩}
theorem Dok.one (R:eD):Dok R pU/\(aI R pU).1=([],[[]]):=by
 have h:aI R pU=(([],rU [[]]),0):=by rw[lC];rfl
 have o:rU [[]]=[[]]:=rfl;exact⟨⟨by rfl,by rfl,by rw[h]⟩,by rw[h,o]⟩
theorem aAC {p:PlanD} {rows:List eM} (hp:bF p (max 1 rows.length)) (o:RowsOk rows) (hm:∀r∈rows,gG r.2=true) (A:Dok (aQ rows) p):Tame (aI (aQ rows) p).1/\(aI (aQ rows) p).1.2.Nodup/\(aI (aQ rows) p).1.1=(shape p).1.names/\(aI (aQ rows) p).1.2.length<=20000000:=by have g:=lR (o.rels hm) p ⟨A.sh,hp.w,hp.sz,hp.es,hp.rg,hp.sc⟩;obtain⟨a,b⟩:=g.rows hp.w hp.sc A.run;obtain⟨c1,c2,c3⟩:=g.tab A.run;have hw:=g.wid A.bare;have D:=bGW (aQ rows) p;refine⟨⟨by rw[c1];exact oK p,fun r o=>⟨a r o,by have:=(c2 r o).2;rw[c1];omega⟩⟩,?_,c1,b⟩;obtain⟨l,e|e⟩:=D;{rw[e];exact nN l};{rw[e];exact List.nodup_nil}
structure aCY (a b:PlanD) (rows:List eM):Prop where
 both:(cC a rows).2=0↔(cC b rows).2=0
 good:(cC a rows).2=0-> ∃X Y:List ByteArray,∃w:Int,bV a=(X,w,0)/\bV b=(Y,w,0)/\X.length=Y.length/\Y.length<=16384/\(∀n,n∈X↔n∈Y)/\(X=[]->(cC a rows).1=(cC b rows).1)/\aRW X Y (cC a rows).1=(cC b rows).1/\
  (∀r∈(cC a rows).1,okVals r/\r.length=X.length)/\(∀r∈(cC b rows).1,okVals r)/\(cC a rows).1.length<=20000000/\(cC b rows).1.length<=20000000
theorem bGX {p:PlanD} {rows:List eM} (E:cS p<=64) (G:(shape p).2=0->(shape p).1.bare=false):(cC p rows).2=0↔(∀r∈rows,gG r.2=true)/\Dok (aQ rows) p:=by rw[gP];constructor;{rintro⟨t,h1,A,o⟩;have D:=(dK.1 h1).2;exact⟨A,D,G D,by rw[o]⟩};{rintro⟨h,h1,A,o⟩;exact⟨_,dK.2 ⟨E,h1⟩,h,Prod.ext rfl o⟩}
theorem wV {α:Type}:∀ {l m:List α},l.Nodup->(∀x∈l,x∈m)->l.length<=m.length|[],_,_,_=>Nat.zero_le _|a::l,m,h,o=>by rw[List.nodup_cons]at h;obtain⟨m1,m2,rfl⟩:=List.append_of_mem (o a (by simp));have:=wV (l:=l) (m:=m1++m2) h.2 fun x A=>(by have h1:=o x (by simp[A]);have D:x≠a:=fun e=>h.1 (e▸A);simpa[D]using h1);simp only[List.length_append,List.length_cons]at this|-;omega
theorem aJD {a b:PlanD} {rows:List eM} (E:bF a (max 1 rows.length)) (D:bF b (max 1 rows.length)) (o:RowsOk rows) (S:cS a<=64) (U:cS b<=64) (na:(shape a).2=0->(shape a).1.bare=false) (nb:(shape b).2=0->(shape b).1.bare=false) (h:Dok (aQ rows) a↔Dok (aQ rows) b) (hi:(∀r∈rows,gG r.2=true)->Dok (aQ rows) a->(∀n,n∈(aI (aQ rows) a).1.1↔n∈(aI (aQ rows) b).1.1)/\ ∀f,(aI (aQ rows) a).1.In f↔(aI (aQ rows) b).1.In f):aCY a b rows:=by
 have W:=bGX (rows:=rows) S na;have kb:=bGX (rows:=rows) U nb;refine⟨by rw[W,kb,h],fun h0=>?_⟩;obtain⟨hm,A⟩:=W.1 h0;have dB:=h.1 A;obtain⟨G,a2,a3,a4⟩:=aAC E o hm A;obtain⟨I,Y,J,b4⟩:=aAC D o hm dB;obtain⟨K,Z⟩:=hi hm A;have ga:=lR (o.rels hm) a ⟨A.sh,E.w,E.sz,E.es,E.rg,E.sc⟩;have gb:=lR (o.rels hm) b ⟨dB.sh,D.w,D.sz,D.es,D.rg,D.sc⟩;have ra:Runs a rows (aI (aQ rows) a).1:=⟨dK.2 ⟨S,A.sh⟩,hm,Prod.ext rfl A.run⟩;have rb:Runs b rows (aI (aQ rows) b).1:=⟨dK.2 ⟨U,dB.sh⟩,hm,Prod.ext rfl dB.run⟩;have wa:=ga.wid A.bare;have wb:=gb.wid dB.bare;have aj:=gb.nms;have ak:=D.w;have L:(shape a).1.names.length=(shape b).1.names.length:=by rw[<-a3,<-J];exact Nat.le_antisymm (wV G.nd fun x M=>(K x).1 M) (wV I.nd fun x M=>(K x).2 M)
 rw[ra.eq,rb.eq];have ca:bV a=((shape a).1.names,(shape a).1.width,0):=by unfold bV;rw[if_neg (by omega),if_pos A.sh]
 have cb:bV b=((shape b).1.names,(shape a).1.width,0):=by unfold bV;rw[if_neg (by omega),if_pos dB.sh,wa,wb,L]
 refine⟨_,_,_,ca,cb,L,by omega,by rw[<-a3,<-J];exact K,fun he=>?_,?_,fun r o=>?_,fun r o=>?_,by rw[mH];exact a4,by rw[mH];exact b4⟩;{have O:(shape b).1.names=[]:=List.eq_nil_of_length_eq_zero (by rw[<-L,he];rfl);exact cIY G I a2 Y (by rw[a3,he]) (by rw[J,O]) Z};{have:=cDD G I Y K Z;rw[a3,J]at this;exact this};{have:=G.rows r (cU.1 o);exact⟨this.1,by rw[this.2,a3]⟩};{exact(I.rows r (cU.1 o)).1}
theorem mB {a b:PlanD} (h:(shape (aS a b)).2=0):(shape (aS a b)).1.bare=false:=by obtain⟨o,A,D,E⟩:=aDG h;rw[aQP o A D E]
theorem pS {a b:PlanD} {rows:List eM} (L:bF a (max 1 rows.length)) (M:bF b (max 1 rows.length)) (A:bF (aS a b) (max 1 rows.length)) (o:RowsOk rows) (hm:∀r∈rows,gG r.2=true) (D:Dok (aQ rows) a) (E:Dok (aQ rows) b): (∀n,n∈(aI (aQ rows) (aS a b)).1.1↔n∈(aI (aQ rows) a).1.1\/n∈(aI (aQ rows) b).1.1)/\ ∀f,(aI (aQ rows) (aS a b)).1.In f↔(aI (aQ rows) a).1.In f/\(aI (aQ rows) b).1.In f:=by
 have G:=(aAC L o hm D).1;have tb:=(aAC M o hm E).1;have J:=(aAC A o hm (Dok.join.2 ⟨D,E⟩)).1;rw[wK D.run E.run]at J|-;have I:∀r∈mA (aI (aQ rows) a).1 (aI (aQ rows) b).1,nC r:=fun r h=>by have:=aZE (fun r o=>⟨(G.rows r o).1.1,(G.rows r o).2⟩) (fun r o=>⟨(tb.rows r o).1.1,(tb.rows r o).2⟩) h;refine okVals.row ⟨this.1,?_⟩;have g:=lR (o.rels hm) (aS a b) ⟨(Dok.join.2 ⟨D,E⟩).sh,A.w,A.sz,A.es,A.rg,A.sc⟩;have h1:=g.nms;have K:=(g.tab (by rw[wK D.run E.run])).1;rw[wK D.run E.run]at K;have O:kE (aI (aQ rows) a).1.1 (aI (aQ rows) b).1.1=(shape (aS a b)).1.names:=K;have:=A.w;rw[‹(∀v∈r,bN v)/\r.length=_›.2,O];omega
 exact⟨fun n=>aLE,fun f=>cKJ G tb J I f⟩
end Go.Al
end
section
namespace Go.Al
open Go.Aw Go
theorem sN:(⟨#[]⟩:ByteArray).size=0:=rfl
theorem aFA (a b:PlanD):bC (aS a b)=bC a+bC b+1:=by simp only[aS,bC,eG,aL,nM,sN,List.map_nil,List.sum_nil];omega
theorem pJ {a b:PlanD} {n:Nat} (hw:wT a+wT b<3999) (I:bC a+bC b<=4190000) (o:aDC a) (A:aDC b) (D:iK a) (E:iK b) (G:n ^ (scM a+scM b)<=5000):bF (aS a b) n:=
 ⟨by rw[rR];simp[aS,PlanD.args,PlanD.aggs,PlanD.ins,mI];omega,by rw[aFA];omega,by simp only[aS,aDC,zR,aL];exact⟨by omega,o,A,trivial⟩,by simp only[aS,iK,oL,iE];exact⟨trivial,D,E,trivial⟩,by simpa[aS,scM,pT]using G⟩
theorem aNP (a b:PlanD):cS (aS a b)=max (cS a) (cS b)+1:=by simp[aS,cS,eY]
theorem bQY (n:Nat):bF pU n:=⟨by decide,by decide,by simp[pU,aDC,zR,aL],by simp[pU,iK,oL,iE],by simp[pU,scM,pT]⟩
def lJ (l:List PlanD):PlanD:=.mk 3 ⟨#[]⟩ ⟨#[]⟩ [] [] l
structure cMP (p q r:PlanD) (rows:List eM):Prop where
 comm:aCY (aS p q) (aS q p) rows
 assoc:aCY (aS (aS p q) r) (aS p (aS q r)) rows
 twice:aCY (aS p p) (aS pU p) rows
 one:aCY (aS p pU) (aS pU p) rows
structure bZE (p q r:PlanD) (N:Nat):Prop where
 a:bF p N
 b:bF q N
 c:bF r N
 pq:bF (aS p q) N
 qp:bF (aS q p) N
 qr:bF (aS q r) N
 pqr:bF (aS (aS p q) r) N
 pqr':bF (aS p (aS q r)) N
 pp:bF (aS p p) N
 op:bF (aS pU p) N
 po:bF (aS p pU) N
theorem aNO {p q r:PlanD} {rows:List eM} (h1:Small (lJ [p,q,r]) rows) (h2:Small (lJ [p,p]) rows) (ad:bC p+bC q+bC r<=1048576) (o:iK p) (I:iK q) (J:iK r):bZE p q r (max 1 rows.length):=by
 obtain⟨_,U,_,s1⟩:=h1;obtain⟨_,W,_,s2⟩:=h2;rw[rR]at U W;simp[lJ,PlanD.args,PlanD.aggs,PlanD.ins,mI]at U W;simp[lJ,scM,pT]at s1 s2;have hN:1<=max 1 rows.length:=by omega
 generalize hn:max 1 rows.length=N at*;have mono:∀x,x<=scM p+(scM q+scM r)->N ^ x<=5000:=fun x hx=>Nat.le_trans (aRG hN hx) s1;have A:=qQ p (by omega);have eq:=qQ q (by omega);have K:=qQ r (by omega);have op:bF p N:=⟨by omega,by omega,A,o,mono _ (by omega)⟩;have oq:bF q N:=⟨by omega,by omega,eq,I,mono _ (by omega)⟩;have or':bF r N:=⟨by omega,by omega,K,J,mono _ (by omega)⟩;have o1:=bQY N;have zp:bC pU=1:=by rfl
 have wo:wT pU=1:=by rfl
 have so:scM pU=0:=by rfl
 have e1:aDC pU:=o1.es;have Y:iK pU:=o1.rg;have opq:bF (aS p q) N:=pJ (by omega) (by omega) A eq o I (mono _ (by omega));have L:bF (aS q p) N:=pJ (by omega) (by omega) eq A I o (mono _ (by omega));have D:bF (aS q r) N:=pJ (by omega) (by omega) eq K I J (mono _ (by omega));have Z:∀a b,wT (aS a b)=wT a+wT b+1:=fun a b=>by rw[rR];simp[aS,PlanD.args,PlanD.aggs,PlanD.ins,mI];omega
 have jz:=aFA;have js:∀a b,scM (aS a b)=scM a+scM b:=fun a b=>by simp[aS,scM,pT]
 have G:bF (aS (aS p q) r) N:=pJ (by rw[Z];omega) (by rw[jz];omega) opq.es K opq.rg J (mono _ (by rw[js];omega));have E:bF (aS p (aS q r)) N:=pJ (by rw[Z];omega) (by rw[jz];omega) A D.es o D.rg (mono _ (by rw[js];omega));have M:bF (aS p p) N:=pJ (by omega) (by omega) A A o o s2;have O:bF (aS pU p) N:=pJ (by omega) (by omega) e1 A Y o (mono _ (by omega));have S:bF (aS p pU) N:=pJ (by omega) (by omega) A e1 o Y (mono _ (by omega));subst hn;exact⟨op,oq,or',opq,L,D,G,E,M,O,S⟩
theorem bWE {p q r:PlanD} {rows:List eM} (h1:Small (lJ [p,q,r]) rows) (h2:Small (lJ [p,p]) rows) (aa:bC p+bC q+bC r<=1048576) (rp:iK p) (rq:iK q) (rr:iK r) (hd:cS (lJ [p,q,r])<=60) (o:RowsOk rows):cMP p q r rows:=by
 obtain⟨op,Z,or',opq,M,O,G,D,S,E,U⟩:=aNO h1 h2 aa rp rq rr;have o1:=bQY (max 1 rows.length);simp[lJ,cS,eY]at hd;have d1:=aNP;have ah:cS pU=1:=by rfl
 have W:∀f,(aI (aQ rows) pU).1.In f:=fun f=>by rw[(Dok.one _).2];simp[Tab.In]
 have ab:(aI (aQ rows) pU).1.1=[]:=by rw[(Dok.one _).2]
 refine⟨?_,?_,?_,?_⟩;{refine aJD opq M o (by rw[d1];omega) (by rw[d1];omega) mB mB (by rw[Dok.join,Dok.join,and_comm]) fun hm I=>?_;obtain⟨A,L⟩:=Dok.join.1 I;obtain⟨J,i1⟩:=pS op Z opq o hm A L;obtain⟨K,i2⟩:=pS Z op M o hm L A;exact⟨fun n=>by rw[J,K,or_comm],fun f=>by rw[i1,i2,and_comm]⟩};{refine aJD G D o (by rw[d1,d1];omega) (by rw[d1,d1];omega) mB mB (by rw[Dok.join,Dok.join,Dok.join,Dok.join,and_assoc]) fun hm I=>?_;obtain⟨Y,dc⟩:=Dok.join.1 I;obtain⟨A,L⟩:=Dok.join.1 Y;obtain⟨J,i1⟩:=pS op Z opq o hm A L;obtain⟨K,i2⟩:=pS opq or' G o hm Y dc;obtain⟨n3,i3⟩:=pS Z or' O o hm L dc;obtain⟨n4,i4⟩:=pS op O D o hm A (Dok.join.2 ⟨L,dc⟩);exact⟨fun n=>by rw[K,J,n4,n3,or_assoc],fun f=>by rw[i2,i1,i4,i3,and_assoc]⟩};{refine aJD S E o (by rw[d1];omega) (by rw[d1];omega) mB mB (by rw[Dok.join,Dok.join];exact⟨fun h=>⟨(Dok.one _).1,h.1⟩,fun h=>⟨h.2,h.2⟩⟩) fun hm I=>?_;obtain⟨A,_⟩:=Dok.join.1 I;obtain⟨J,i1⟩:=pS op op S o hm A A;obtain⟨K,i2⟩:=pS o1 op E o hm (Dok.one _).1 A;exact⟨fun n=>by rw[J,K,ab];simp,fun f=>by rw[i1,i2];simp[W f]⟩};{refine aJD U E o (by rw[d1];omega) (by rw[d1];omega) mB mB (by rw[Dok.join,Dok.join,and_comm]) fun hm I=>?_;obtain⟨A,_⟩:=Dok.join.1 I;obtain⟨J,i1⟩:=pS op o1 U o hm A (Dok.one _).1;obtain⟨K,i2⟩:=pS o1 op E o hm (Dok.one _).1 A;exact⟨fun n=>by rw[J,K,or_comm],fun f=>by rw[i1,i2,and_comm]⟩}
end Go.Al
end
section
open Go Go.Aw Go.Proofs
open Tryz
namespace Go.Al
set_option maxRecDepth 100000
instance:FT prog f12:=.n
instance:FT prog f10:=.n
instance:FT prog f16:=.n
instance:FT prog f15:=.n
instance:FT prog f9:=.n
instance:FT prog f14:=.n
instance:FT prog f13:=.n
instance:FT prog f40:=.n
instance:FT prog f21:=.n
attribute [local simp] aP aV bG bK aM cA aR lL aZ dW cG aU cN aFK
def kC (n:ByteArray):ExprD:=.mk 2 0 0 n v0 []
def cDV (n:Int):ExprD:=.mk 1 0 0 ⟨#[]⟩ (cR n) []
def gN (n:ByteArray) (l:List ExprD):ExprD:=.mk 6 0 0 n v0 l
def cB (rel:ByteArray) (l:List ExprD):PlanD:=.mk 2 rel ⟨#[]⟩ l [] []
def aH (op:Int) (q:PlanD) (l:List ExprD):PlanD:=.mk op ⟨#[]⟩ ⟨#[]⟩ l [] [q]
theorem aHL (n:Int):Con prog 12 [aB n] (aP (cR n)):=by refine Con.oc func12 fun C o A=>?_;refine aK ?_;refine .re ?_;exact .agg (.cons (.closed rfl) (.cons (.closed rfl) (.cons (.closed rfl) (.cons .nil .nil))))
theorem bLB (n:ByteArray):Con prog 10 [aE n] (bG (kC n)):=by refine Con.oc func10 fun C o A=>?_;refine aK ?_;refine .re ?_;exact .agg (.cons (.closed rfl) (.cons (.closed rfl) (.cons (.closed rfl) (.cons (.closed rfl) (.cons (.closed rfl) (.cons (.closed rfl) (.cons (.closed rfl) (.cons .nil (.cons .nil .nil)))))))))
theorem cKG (n:Int):Con prog 16 [aB n] (bG (cDV n)):=by have o:=aHL n;refine Con.oc func16 fun C A D=>?_;refine aA ?_;refine goC [{r:=aP (cR n)}] ?_;refine .re ?_;exact .agg (.cons (.closed rfl) (.cons (.closed rfl) (.cons (.closed rfl) (.cons (.closed rfl) (.cons (.closed rfl) (.cons (.closed rfl) (.cons (.closed rfl) (.cons (.closed rfl) (.cons .nil .nil)))))))))
theorem bJR (n:ByteArray) (l:List ExprD):Con prog 15 [aE n,dW l] (bG (gN n l)):=by refine Con.oc func15 fun C o A=>?_;refine aK ?_;refine .re ?_;exact .agg (.cons (.closed rfl) (.cons (.closed rfl) (.cons (.closed rfl) (.cons (.closed rfl) (.cons (.closed rfl) (.cons (.closed rfl) (.cons (.closed rfl) (.cons .nil (.cons (.closed rfl) .nil)))))))))
theorem bGR (rel:ByteArray) (l:List ExprD):Con prog 9 [aE rel,dW l] (aM (cB rel l)):=by refine Con.oc func9 fun C o A=>?_;refine aK ?_;refine .re ?_;exact .agg (.cons (.closed rfl) (.cons (.closed rfl) (.cons (.closed rfl) (.cons (.closed rfl) (.cons .nil (.cons .nil .nil))))))
theorem rB (op:Int) (q:PlanD) (l:List ExprD):Con prog 14 [dC op,aM q,dW l] (aM (aH op q l)):=by refine Con.oc func14 fun C o A=>?_;refine aK ?_;refine .re ?_;exact .agg (.cons (.closed rfl) (.cons (.closed rfl) (.cons (.closed rfl) (.cons (.closed rfl) (.cons .nil (.cons (.clos (by simp[aH,PlanD.ins]) (by simp)) .nil))))))
theorem rI (a b:PlanD):Con prog 13 [aM a,aM b] (aM (aS a b)):=by refine Con.oc func13 fun C o A=>?_;refine aK ?_;refine .re ?_;exact .agg (.cons (.closed rfl) (.cons (.closed rfl) (.cons (.closed rfl) (.cons .nil (.cons .nil (.cons (.clos (by simp[aS,PlanD.ins];rfl) (by simp)) .nil))))))
theorem bQH:∀ (l:List PlanD) (n:Nat),n<=aAG l n|[],n=>Nat.le_refl n|p::l,n=>by simp only[aAG];split;{have:=bQH l (n+scN p);omega};{omega}
mutual
theorem bCD:∀p:PlanD,scN p<=bC p| .mk op rel name args aggs ins=>by have:=bQG ins (if op=2\/op=4 then 1 else 0);have h1:(if op=2\/op=4 then 1 else 0)<=1:=(by split<;>omega);simp only[scN,bC];omega
theorem bQG:∀ (l:List PlanD) (n:Nat),aAG l n<=n+eG l
 |[],n=>by simp[aAG,eG]
 |p::l,n=>by simp only[aAG,eG];have h1:=bCD p;split;{have:=bQG l (n+scN p);omega};{omega}
end
theorem cBG:∀ (n:Nat) (p:PlanD),bC p<n->bC p<=4194304->Con prog 40 [aM p] (aB (scN p)):=by intro n;induction n with|zero=>intro p h;omega|succ n M=>intro p Y hp;have O:=nB p;have hle:=bCD p;have hlen:=lT p.ins;rw[cBJ];rw[cBJ]at hle;refine Con.oc func40 fun C Z hM=>?_;refine aK ?_;refine .seqJ (fun _:Unit=>{tm:=[(1,.ptr 1 0),(3,aB (if p.op=2\/p.op=4 then 1 else 0:Nat))],hp:=[(1,.cells 57 (dN p))]}) (fun _=>True) ?_ (fun I=>?_);{rintro- -;generalize(if p.op=2\/p.op=4 then 1 else 0:Nat)=J at*;refine aA ?_;refine .block<| .loopG (fun x:Nat×Nat=>{tm:=[(1,.ptr 1 0),(3,aB x.2),(4,aB x.1)],hp:=[(1,.cells 57 (dN p))]}) (fun x=>x.1<=p.ins.length/\aAG p.ins J=aAG (p.ins.drop x.1) x.2) (fun x=>p.ins.length-x.1) (0,J) ⟨by simp,by simp⟩ (by simp) (fun x hk=>?_);obtain⟨k,m⟩:=x;obtain⟨E,A⟩:=hk;simp only at E A;have S:=bQH (p.ins.drop k) m;refine aA ?_;refine .cnd (fun o=>?_) (fun o=>?_);{have D:k<p.ins.length/\m<100:=(by simp at o;omega);clear o;obtain⟨o,G⟩:=D;have L:=aXU p.ins k m o;rw[if_pos G]at L;have hm:=jU (List.getElem_mem o);have hc:=M p.ins[k] (by omega) (by omega);have U:=bCD p.ins[k];have hw:IntKind.i64.wrap ((m:Int)+(scN p.ins[k]:Int))=((m+scN p.ins[k]:Nat):Int):=(by rw[bH (by omega) (by omega)];omega);refine goX [{r:=aB (scN p.ins[k])}] fun K W=>?_;simp[o];refine ck W ?_;refine aA ?_;refine⟨(k+1,m+scN p.ins[k]),⟨by simp;omega,by rw[A,L]⟩,by simp;omega,?_⟩;simp[aC k (by omega),hw]};refine .exit ?_;refine aA ?_;refine .re ?_;refine .clos ?_ rfl;rw[A];by_cases h:k<p.ins.length;{rw[aXU p.ins k m h,if_neg (by simp[h]at o;omega)];rfl};{rw[List.drop_eq_nil_of_le (by omega)];rfl}};{refine aA ?_;refine .cnd (fun h1=>?_) (fun h1=>?_);{have h1:p.op=2\/p.op=4:=(by simpa using h1);refine aA ?_;refine I _ () trivial ?_;rw[if_pos h1];simp};have h1:¬ (p.op=2\/p.op=4):=(by simpa using h1);refine .skip ?_;refine I _ () trivial ?_;rw[if_neg h1];simp}
theorem aRX (m:Nat) (hm:m<=1099511627776):∀s,kD m s<=109951162777600000
 |0=>by simp[kD]
 |s+1=>by have:=aRX m hm s;simp only[kD];split;{rename_i h;have:=Nat.mul_le_mul (Nat.le_of_lt h) hm;omega};{exact this}
theorem bVV (m:Nat):∀ {s i:Nat},i<=s-> ¬kD m i<100000->kD m s=kD m i|s,i,h,o=>by induction s with|zero=>rw[show i=0 by omega]|succ s A=>by_cases e:i=s+1;{rw[e]};{have D:=A (by omega);simp only[kD];rw[D,if_neg o]}
theorem aAY (p:PlanD) (rows:List eM) (hp:bC p<=4194304) (hl:rows.length<=4194304) (hv:∀r∈rows,aJ r.2<=1048576):Con prog 21 [aM p,cN rows] (aD (kK p rows)):=by
 have hw:=bLA p hp;have hs:=cBG _ p (Nat.lt_succ_self _) hp;have ab:=bCD p;refine Con.oc func21 fun C hC hM=>?_;refine bQ ?_;refine .block<| .loopG (fun x:Nat×Nat=>{tm:=[(1,cN rows),(2,.ptr 2 0),(5,aB x.2),(6,aB x.1)],hp:=[(2,.cells 57 (dN p))]}) (fun x=>x.1<=rows.length/\wM rows 0=wM (rows.drop x.1) x.2/\x.2<=4194304) (fun x=>rows.length-x.1) (0,0) ⟨by simp,by simp,by simp⟩ (by simp) (fun x hk=>?_);obtain⟨k,m⟩:=x;obtain⟨J,E,L⟩:=hk;simp only at J E L;refine aA ?_;refine .cnd (fun o=>?_) (fun o=>?_);{have A:k<rows.length/\m<2000:=(by simp at o;omega);clear o;obtain⟨o,G⟩:=A;have Z:=aQV rows k m o;rw[if_pos G]at Z;have ac:=hv _ (List.getElem_mem o);have hc:=aPR rows[k].2 (by omega);have ad:=xX rows[k].2;have M:IntKind.i64.wrap ((m:Int)+1)=((m+1:Nat):Int):=(by rw[bH (by omega) (by omega)];omega);have O:IntKind.i64.wrap (((m+1:Nat):Int)+(eO rows[k].2:Int))=((m+1+eO rows[k].2:Nat):Int):=(by rw[bH (by omega) (by omega)];omega);refine goX [{r:=aB (eO rows[k].2)}] fun K hK=>?_;simp[o];refine ck hK ?_;refine aA ?_;refine⟨(k+1,m+1+eO rows[k].2),⟨by simp;omega,by rw[E,Z],by simp;omega⟩,by simp;omega,?_⟩;simp only[M,O];simp[aC k (by omega)]};refine .exit ?_;have hn:2000<=m↔2000<=wM rows 0:=by rw[E];by_cases h:k<rows.length;{have G:¬m<2000:=(by simp[h]at o;omega);rw[aQV rows k m h,if_neg G]};{rw[List.drop_eq_nil_of_le (by omega)];rfl}
 have S:decide (2000<=wM rows 0)=decide (2000<=m):=decide_eq_decide.2 hn.symm;unfold kK;rw[S];refine goC [{r:=aB (wN p)}] ?_;refine .cnd (fun c1=>?_) (fun c1=>?_);{refine aA ?_;refine .re ?_;refine .clos ?_ rfl;have:((decide (2000<=m)||decide (300<=wN p))||decide (200<rows.length))=true:=(by simp at c1|-;omega);rw[this];rfl};have h0:((decide (2000<=m)||decide (300<=wN p))||decide (200<rows.length))=false:=by simp at c1|-;omega
 rw[h0,Bool.false_or];refine aK ?_;refine .block<| .loopG (fun i:Nat=>{tm:=[(1,cN rows),(2,.ptr 2 0),(7,aB (kD (max 1 rows.length) i)),(8,aB i)],hp:=[(2,.cells 57 (dN p))]}) (fun i=>i<=scN p) (fun i=>scN p-i) 0 (by omega) (by simp[kD]) (fun i hi=>?_);have ah:=aRX (max 1 rows.length) (by omega) i;refine goC [{r:=aB (scN p)}] ?_;refine .cnd (fun D=>?_) (fun D=>?_);{have A:i<scN p/\kD (max 1 rows.length) i<100000:=(by simp at D;omega);have U:kD (max 1 rows.length) (i+1)=kD (max 1 rows.length) i*max 1 rows.length:=(by simp only[kD];rw[if_pos A.2]);have I:=aRX (max 1 rows.length) (by omega) (i+1);refine aK ?_;refine⟨i+1,by omega,by omega,?_⟩;rw[U]at I|-;have W:(if(1:Int)<(rows.length:Int)then(rows.length:Int)else 1)=((max 1 rows.length:Nat):Int):=(by split<;>omega);have Y:IntKind.i64.wrap ((kD (max 1 rows.length) i:Int)*((max 1 rows.length:Nat):Int))=(kD (max 1 rows.length) i:Int)*((max 1 rows.length:Nat):Int):=(by rw[<-Int.natCast_mul,bH (by omega) (by omega)]);simp[aC i (by omega),W,Y]};refine .exit ?_;refine aA ?_;refine .re ?_;refine .clos ?_ rfl;have he:kD (max 1 rows.length) (scN p)=kD (max 1 rows.length) i:=by by_cases h:i<scN p;{exact bVV _ (by omega) (by simp[h]at D;omega)};{rw[show i=scN p by omega]}
 rw[he];simp;omega
end Go.Al
end
section
namespace Go.Al
open Go.Aw Go
def bX:ByteArray:=⟨#[88]⟩
def bY:ByteArray:=⟨#[89]⟩
def bZ:ByteArray:=⟨#[90]⟩
def bE:ByteArray:=⟨#[101]⟩
def xyP:PlanD:=cB bE [kC bX,kC bY]
def aDV:PlanD:=.mk 4 bE ⟨#[]⟩ [kC bY,.mk 3 0 0 ⟨#[]⟩ v0 []] [] [xyP]
def aFC:PlanD:=.mk 8 ⟨#[]⟩ ⟨#[]⟩ [cDV 0,kC bX,kC bY] [⟨#[]⟩,rS,bLJ] [xyP]
def exD:List eM:=[(bE,[cR 1,cR 2]),(bE,[cR 2,cR 3])]
def bXJ:PlanD:=aS xyP (cB bE [kC bY,kC bZ])
def bXI:PlanD:=aH 7 aDV [gN ⟨#[43]⟩ [kC bX,kC bY]]
theorem cFH:cC bXJ exD=([[cR 1,cR 2,cR 3]],0):=by kernel_rfl
theorem cFG:cC aDV exD=([[cR 2,cR 3]],0):=by kernel_rfl
theorem cFF:cC bXI exD=([[cR 5]],0):=by kernel_rfl
theorem cFE:cC aFC exD=([[cR 0,cR 2,cR 5]],0):=by kernel_rfl
theorem bDR:RowsOk exD:=⟨by decide,fun r o=>by
 rcases List.mem_cons.1 o with rfl|o
 ·exact⟨by decide,by simp[iM,rng,cR],by decide⟩
 ·rw[List.mem_singleton.1 o];exact⟨by decide,by simp[iM,rng,cR],by decide⟩⟩
theorem bDQ:iE [kC bX,kC bY]/\iE [kC bY,kC bZ]/\iK aDV/\iK aFC/\iK bXI/\iK bXJ:=by simp[iE,sE,rng,iM,kC,aDV,aFC,bXI,bXJ,aS,aH,cB,xyP,iK,oL,cDV,gN,v0,cR]
theorem aIJ (p:PlanD) (h1:wT p<4000) (o:bC p<=1048576) (A:iK p) (D:(max 1 exD.length) ^ scM p<=5000):bF p (max 1 exD.length):=⟨h1,by omega,qQ p o,A,D⟩
theorem cPH:bF bXJ (max 1 exD.length):=aIJ _ (by decide) (by decide) bDQ.2.2.2.2.2 (by decide)
theorem cPG:bF aDV (max 1 exD.length):=aIJ _ (by decide) (by decide) bDQ.2.2.1 (by decide)
theorem cPF:bF bXI (max 1 exD.length):=aIJ _ (by decide) (by decide) bDQ.2.2.2.2.1 (by decide)
theorem cPE:bF aFC (max 1 exD.length):=aIJ _ (by decide) (by decide) bDQ.2.2.2.1 (by decide)
end Go.Al
end
section
open Go Go.Aw Go.Proofs
open Tryz
namespace Go.Al
set_option maxRecDepth 100000
set_option maxRecDepth 20000
instance:FT prog f11:=.n
instance:FT prog f17:=.n
instance:FT prog f8:=.n
attribute [local simp] aP aV bG bK aM cA aR lL aZ dW cG aU cN aFK
theorem bNW:Con prog 11 [] (cN exD):=by have h1:=aHL 1;have o:=aHL 2;have A:=aHL 3;refine Con.oc func11 fun C D E=>?_;refine aA ?_;refine goC [{r:=aP (cR 1)},{r:=aP (cR 2)},{r:=aP (cR 2)},{r:=aP (cR 3)}] ?_;refine .re ?_;exact .own
def aDD (l:List (List Int)):Rows:=l.map fun r=>r.map cR
def zI (l:List (List Int)):AV:=.rd 1 (l.map fun r=>[.rd 1 (r.map fun n=>[aB n])])
theorem aIR (p:PlanD) (rows:List eM) (want:List (List Int)) (hp:bF p (max 1 rows.length)) (O:RowsOk rows) (h:cC p rows=(aDD want,0)) (hl:want.length<=1000) (hw:∀r∈want,r.length<=1000/\aJ (r.map cR)<=1048576): Con prog 17 [aM p,cN rows,aB 0,zI want] (aD true):=by have S:=kN p rows hp O;rw[h]at S;refine Con.oc func17 fun C hC hM=>?_;refine aA ?_;refine goC [{r:=.tup [aU (aDD want),aB 0]}] ?_;refine goX [] fun K D=>?_;simp[aDD,zI];refine ck D ?_;refine .cf (by simp) ?_;refine aA ?_;refine .block<| .loopG (fun i:Nat=>{tm:=[(3,zI want),(9,aU (aDD want)),(11,aB i)],hp:=[]}) (fun i=>i<=want.length) (fun i=>want.length-i) 0 (by omega) (by simp[zI,aDD]) (fun i hi=>?_);refine goX [] fun K D=>?_;simp[aDD,zI];refine D _ ?_;refine .cnd (fun A=>?_) (fun U=>?_);{have A:i<want.length:=(by simpa using A);have W:=hw _ (List.getElem_mem A);have M:=H.SameRow1_ok (want[i].map cR) (by omega);obtain⟨q,G⟩:∃q,q=want[i].map cR:=⟨_,rfl⟩;have Y:q.length=want[i].length:=(by rw[G];simp);have I:∀k (h:k<want[i].length),q[k]'(by omega)=cR want[i][k]:=fun k h=>(by subst G;simp);have J:want[i].map (bA∘cR)=q.map bA:=(by rw[G,List.map_map]);rw[<-G]at M;refine aK ?_;refine .block<| .loopG (fun k:Nat=>{tm:=[(3,zI want),(9,aU (aDD want)),(11,aB i),(12,.own 33 4 ((q.map bA).take k)),(13,aB k)],hp:=[]}) (fun k=>k<=want[i].length) (fun k=>want[i].length-k) 0 (by omega) (by simp[zI,aDD]) (fun k hk=>?_);refine goX [] fun K D=>?_;simp[zI,A];refine ck D ?_;refine .cnd (fun o=>?_) (fun E=>?_);{have o:k<want[i].length:=(by simpa using o);have hn:=aHL want[i][k];have Z:(q.map bA).take (k+1)=(q.map bA).take k++[bA (cR want[i][k])]:=(by rw[List.take_succ_eq_append_getElem (by simp;omega),List.getElem_map,I k o]);have L:((q.map bA).take k).length=k:=(by simp;omega);generalize(q.map bA).take k=pr at*;refine goX [{r:=aP (cR want[i][k])}] fun K D=>?_;simp[A,o,L,zI];refine ck D ?_;refine aA ?_;refine⟨k+1,by omega,by omega,?_⟩;rw[Z];simp[aC k (by omega),zI]};have E:¬k<want[i].length:=(by simpa using E);refine .exit ?_;rw[List.take_of_length_le (by simp;omega)];refine goX [{r:=aD true}] fun K D=>?_;simp[A,aDD,J];(repeat first|refine ob ?_ |refine⟨by intros;exact eK rfl (by repeat(first|exact WkL.nil|refine WkL.cons (by first|exact Wk.refl _|exact Wk.nil _|exact Wk.own (WkR.refl _)) ?_)) M,?_⟩);refine D _ ?_;refine .cf (by simp) ?_;refine aA ?_;refine⟨i+1,by omega,by omega,?_⟩;simp[aC i (by omega),zI,aDD]};refine .exit ?_;refine aA ?_;exact rtC
def cLK (y z:AV):List AV:=[dC 3,aB 0,aB 0,aE ⟨#[]⟩,dC 0,aB 0,aE ⟨#[]⟩,y,z]
def bBE (y z:AV):List AV:=[dC 4,aE bE,aE ⟨#[]⟩,.rd 9 [fM (kC bY),cLK y z],.rd 1 [],.rd 6 [dN xyP]]
theorem bJY:Wk (.agg (bBE (.val (.slice none 0 0)) (.val (.slice none 0 0)))) (aM aDV):=by
 have e:aM aDV=.agg (bBE (.rd 4 []) (.rd 9 [])):=by simp[bBE,cLK,aDV,PlanD.op,PlanD.rel,PlanD.name,PlanD.args,PlanD.aggs,PlanD.ins,ExprD.kind,ExprD.line,ExprD.col,ExprD.name,ExprD.v,ExprD.args,v0,ValD.kind,ValD.n,ValD.s,ValD.l]
 rw[e];exact .agg (.cons (.refl _) (.cons (.refl _) (.cons (.refl _) (.cons (.rd (.cons (.refl _) (.cons (.cons (.refl _) (.cons (.refl _) (.cons (.refl _) (.cons (.refl _) (.cons (.refl _) (.cons (.refl _) (.cons (.refl _) (.cons (.nil _) (.cons (.nil _) .nil))))))))) .nil))) (.refl _)))))
theorem aGF:Con prog 8 [] (aD true):=by have J:=bLB bX;have L:=bLB bY;have M:=bLB bZ;have O:=cKG 0;have D:=bGR bE [kC bX,kC bY];have o:=bGR bE [kC bY,kC bZ];have S:=rI xyP (cB bE [kC bY,kC bZ]);have G:=bJR ⟨#[43]⟩ [kC bX,kC bY];have I:=rB 7 aDV [gN ⟨#[43]⟩ [kC bX,kC bY]];have ex:=bNW;have c1:=aIR bXJ exD [[1,2,3]] cPH bDR cFH (by decide) (by simp;decide);have c2:=aIR aDV exD [[2,3]] cPG bDR cFG (by decide) (by simp;decide);have c3:=aIR bXI exD [[5]] cPF bDR cFF (by decide) (by simp;decide);have c4:=aIR aFC exD [[0,2,5]] cPE bDR cFE (by decide) (by simp;decide);have o:=o.args (.cons (.refl _) (.cons (.own (e:=35) (WkR.refl _)) .nil));have G:=G.args (.cons (.refl _) (.cons (.own (e:=35) (WkR.refl _)) .nil));have I:=I.args (.cons (.refl _) (.cons bJY (.cons (.own (e:=35) (WkR.refl _)) .nil)));have A:∀p w,Con prog 17 [aM p,cN exD,aB 0,zI w] (aD true)->Con prog 17 [aM p,cN exD,aB 0,.own 45 1 (w.map fun r=>[.rd 1 (r.map fun n=>[aB n])])] (aD true):=fun p w h=>h.args (.cons (.refl _) (.cons (.refl _) (.cons (.refl _) (.cons (.own (WkR.refl _)) .nil))));have c1:=A _ _ c1;have c2:=(A _ _ c2).args (.cons bJY (.refl _));have c3:=A _ _ c3;have c4:=A _ _ c4;refine Con.oc func8 fun C U W=>?_;refine aA ?_;refine goX [{r:=bG (kC bX)},{r:=bG (kC bY)},{r:=aM xyP}] fun K E=>?_;simp;(repeat first|refine ob ?_ |refine⟨by intros;exact aX rfl J,?_⟩|refine⟨by intros;exact aX rfl L,?_⟩|refine⟨by intros;exact eK rfl (by repeat(first|exact WkL.nil|refine WkL.cons (by first|exact Wk.refl _|exact Wk.nil _|exact Wk.own (WkR.refl _)) ?_)) D,?_⟩);refine E _ ?_;refine goE [{r:=bG (kC bY)}] ?_;refine goE [{r:=bG (cDV 0)},{r:=bG (kC bX)},{r:=bG (kC bY)}] ?_;refine .forget (s':={tm:=[(1,.ptr 1 0),(2,.ptr 2 0),(3,.ptr 3 0)],hp:=[(1,.cells 27 (dN xyP)),(2,.cells 27 (bBE (.val (.slice none 0 0)) (.val (.slice none 0 0)))),(3,.cells 27 (dN aFC))]}) (by simp[bBE,cLK,aFC,PlanD.op,PlanD.rel,PlanD.name,PlanD.args,PlanD.aggs,PlanD.ins,List.range_succ,rS,bLJ,cDV,kC,bE,bX,bY,ExprD.kind,ExprD.line,ExprD.col,ExprD.name,ExprD.v,ExprD.args]) ?_;refine dZ [{r:=bG (kC bY)},{r:=bG (kC bZ)},{r:=aM (cB bE [kC bY,kC bZ])},{r:=aM bXJ},{r:=cN exD},{r:=aD true},{r:=cN exD},{r:=aD true},{r:=bG (kC bX)},{r:=bG (kC bY)},{r:=bG (gN ⟨#[43]⟩ [kC bX,kC bY])},{r:=aM bXI},{r:=cN exD},{r:=aD true},{r:=cN exD},{r:=aD true}] fun K E=>?_;simp[List.range_succ,bBE,cLK];refine ck E ?_;exact rtC
end Go.Al
end
section
open Go Go.Aw Go.Proofs
namespace Go.Al
set_option maxRecDepth 100000
attribute [local simp] aM cA aZ dW cN aFK
def yO:AV:=.val (.slice none 0 0)
def zU (op:Int) (ins:AV):AV:=.agg [dC op,aE ⟨#[]⟩,aE ⟨#[]⟩,yO,yO,ins]
attribute [local simp] yO zU
theorem bEM (l:List PlanD):Wk (zU 3 (.rd 6 (l.map dN))) (aM (lJ l)):=
 .agg (.cons (.refl _) (.cons (.refl _) (.cons (.refl _) (.cons (.nil _) (.cons (.nil _) (.cons (.refl _) .nil))))))
theorem cOM:Wk (zU 1 yO) (aM pU):=.agg (.cons (.refl _) (.cons (.refl _) (.cons (.refl _) (.cons (.nil _) (.cons (.nil _) (.cons (.nil _) .nil))))))
end Go.Al
end
