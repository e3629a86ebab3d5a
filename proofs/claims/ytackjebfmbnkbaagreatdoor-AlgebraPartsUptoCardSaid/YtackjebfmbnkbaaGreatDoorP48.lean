/- Parts: a pattern that is matched under whole bindings, and one that is matched from nothing. -/
import Derived.Test.YtackjebfmbnkbaaGreatDoorP44
import Derived.Test.YtackjebfmbnkbaaGreatDoorP47
set_option linter.unusedSimpArgs false
set_option linter.unusedVariables false
set_option linter.unusedSectionVars false
section
namespace Go.Al
open Go.Aw Go
mutual
def bXB (f:ByteArray->ValD):ExprD->ValD->Bool
 | .mk kind line col name o args,v=>
  if kind=3 then true else if kind=1 then decide (oQ o v=0)else if kind=2 then decide (oQ (f name) v=0)
  else if wF (.mk kind line col name o args) v=true then false else aNV f args v.l
def aNV (f:ByteArray->ValD):List ExprD->List ValD->Bool
 |[],_=>true
 |_::_,[]=>false
 |a::es,x::xs=>bXB f a x&&aNV f es xs
end
def agr (f:ByteArray->ValD) (l:List Bnd):Prop:=∀s b,gF s l=some b->b.2=f s
theorem xM {s:ByteArray} {l m:List Bnd}:gF s (l++m)=(gF s l).or (gF s m):=by unfold gF;rw[List.find?_append]
theorem sP {s:ByteArray} {kind line col:Int} {name:ByteArray} {o:ValD} {args:List ExprD}:s∈oF [] (.mk kind line col name o args)↔(kind=2/\s=name)\/s∈bL [] args:=by rw[oF,qJ];by_cases h:kind=2<;>simp[h,aHU]
theorem gA {s:ByteArray} {a:ExprD} {l:List ExprD}:s∈bL [] (a::l)↔s∈oF [] a\/s∈bL [] l:=by obtain⟨kind,line,col,name,o,args⟩:=a;rw[yP,yP s l,sP];simp[ExprD.kind,ExprD.name,ExprD.args]
mutual
theorem aZV {f:ByteArray->ValD}:∀ (p:ExprD) (v:ValD) (l:List Bnd),(∀s∈oF [] p,bN (f s))->bN v->bXB f p v=true->agr f l->(dY p v l).2=true/\agr f (dY p v l).1| .mk kind line col name S args,v,l,I,J,h,A=>by have K:=aTI args v.l l (fun s o=>I s (sP.2 (.inr o))) (fun x L=>aKT J L);unfold bXB at h;unfold dY;split at h;{rename_i E;rw[if_pos E];exact⟨rfl,A⟩};rename_i E;rw[if_neg E];split at h;{rename_i h1;rw[if_pos h1];exact⟨h,A⟩};rename_i h1;rw[if_neg h1];split at h;{rename_i D;rw[if_pos D];have M:=I name (sP.2 (.inl ⟨D,rfl⟩));cases O:gF name l with|some b=>simp only;rw[A _ _ O];exact⟨h,A⟩|none=>refine⟨rfl,fun s b o=>?_⟩;simp only[xM]at o;cases G:gF s l with|some c=>rw[G]at o;simp at o;subst o;exact A _ _ G|none=>rw[G]at o;simp[gF]at o;obtain⟨rfl,rfl⟩:=o;exact((bAT M.1 J.1).1 (of_decide_eq_true h)).symm};rename_i D;rw[if_neg D];split at h;{cases h};rename_i hu;rw[if_neg hu];exact K h A
theorem aTI {f:ByteArray->ValD}:∀ (ps:List ExprD) (xs:List ValD) (l:List Bnd),(∀s∈bL [] ps,bN (f s))->(∀x∈xs,bN x)->aNV f ps xs=true->agr f l->(dG ps xs l).2=true/\agr f (dG ps xs l).1
 |[],_,l,_,_,_,o=>by simp only[dG];exact⟨trivial,o⟩
 |_::_,[],l,_,_,h,_=>by simp[aNV]at h
 |a::ps,x::xs,l,D,E,h,o=>by simp only[aNV,Bool.and_eq_true]at h;obtain⟨h1,G⟩:=aZV a x l (fun s A=>D s (gA.2 (.inl A))) (E x (by simp)) h.1 o;simp only[dG];rw[if_pos h1];exact aTI ps xs _ (fun s A=>D s (gA.2 (.inr A))) (fun y I=>E y (by simp[I])) h.2 G
end
mutual
theorem aYR {f:ByteArray->ValD}:∀ (p:ExprD) (v:ValD) (l:List Bnd),good true p=true->bN v->(dY p v l).2=true->(∀s∈oF [] p,∀b,gF s (dY p v l).1=some b->b.2=f s)->bXB f p v=true| .mk kind line col name I args,v,l,K,E,o,h=>by have G:kS true args=true:=(by have:=pL true (.mk kind line col name I args);rw[K]at this;simp only[ExprD.args]at this;cases A:kS true args<;>simp[A]at this|-);have L:=aSE (f:=f) args v.l l G (fun x M=>aKT E M);unfold dY at o h;unfold bXB;by_cases J:kind=3;{rw[if_pos J]};rw[if_neg J]at o h|-;by_cases h1:kind=1;{rw[if_pos h1]at o|-;exact o};rw[if_neg h1]at o h|-;by_cases A:kind=2;{rw[if_pos A]at o h|-;cases D:gF name l with|some b=>rw[D]at o h;rw[<-h name (sP.2 (.inl ⟨A,rfl⟩)) b D];exact o|none=>rw[D]at h;have:=h name (sP.2 (.inl ⟨A,rfl⟩)) (name,v) (by simp only[xM,D];simp[gF]);rw[<-this];exact decide_eq_true ((bAT E.1 E.1).2 rfl)};rw[if_neg A]at o h|-;by_cases hu:wF (.mk kind line col name I args) v=true;{rw[if_pos hu]at o;cases o};rw[if_neg hu]at o h|-;exact L o fun s O=>h s (sP.2 (.inr O))
theorem aSE {f:ByteArray->ValD}:∀ (ps:List ExprD) (xs:List ValD) (l:List Bnd),kS true ps=true->(∀x∈xs,bN x)->(dG ps xs l).2=true->(∀s∈bL [] ps,∀b,gF s (dG ps xs l).1=some b->b.2=f s)->aNV f ps xs=true
 |[],_,_,_,_,_,_=>by simp[aNV]
 |_::_,[],l,_,_,h,_=>by simp only[dG]at h;cases h
 |a::ps,x::xs,l,A,E,o,h=>by simp only[kS,Bool.and_eq_true]at A;simp only[dG]at o h;by_cases hm:(dY a x l).2=true;{rw[if_pos hm]at o h;obtain⟨⟨m,e⟩,_⟩:=vM ps xs (dY a x l).1 A.2 o;have h1:=aYR (f:=f) a x l A.1 (E x (by simp)) hm fun s D b G=>h s (gA.2 (.inl D)) b (by rw[e,xM,G];rfl);have I:=aSE (f:=f) ps xs _ A.2 (fun y J=>E y (by simp[J])) o fun s D=>h s (gA.2 (.inr D));simp[aNV,h1,I]};{rw[if_neg hm]at o;cases o}
end
def cPC (f:ByteArray->ValD):List ExprD->List ValD->Prop
 |[],_=>True
 |_::_,[]=>False
 |a::es,x::xs=>(eB a=true/\cF x=0/\bXB f a x=true)/\cPC f es xs
theorem yZ {f:ByteArray->ValD}:∀ (ps:List ExprD) (xs:List ValD) (l:List Bnd),(∀s∈bL [] ps,bN (f s))->(∀x∈xs,bN x)->cPC f ps xs->agr f l->(cH eB ps xs l).2=true/\agr f (cH eB ps xs l).1
 |[],_,l,_,_,_,o=>by simp only[cH];exact⟨trivial,o⟩
 |_::_,[],l,_,_,h,_=>h.elim|a::ps,x::xs,l,D,E,h,o=>by obtain⟨⟨G,I,J⟩,h⟩:=h;obtain⟨h1,K⟩:=aZV a x l (fun s A=>D s (gA.2 (.inl A))) (E x (by simp)) J o;have e:fN eB a x l=((dY a x l).1,true):=(by unfold fN;rw[if_pos ⟨G,I,h1⟩]);simp only[cH,e];exact yZ ps xs _ (fun s A=>D s (gA.2 (.inr A))) (fun y L=>E y (by simp[L])) h K
theorem yQ {f:ByteArray->ValD}:∀ (ps:List ExprD) (xs:List ValD) (l:List Bnd),(∀x∈xs,bN x)->(cH eB ps xs l).2=true->(∀s∈bL [] ps,∀b,gF s (cH eB ps xs l).1=some b->b.2=f s)->cPC f ps xs
 |[],_,_,_,_,_=>trivial
 |_::_,[],l,_,h,_=>by simp only[cH]at h;cases h
 |a::ps,x::xs,l,E,o,h=>by simp only[cH]at o h;by_cases hm:(fN eB a x l).2=true;{rw[if_pos hm]at o h;obtain⟨⟨m,e⟩,_⟩:=lW ps xs (fN eB a x l).1 o;have G:=yQ (f:=f) ps xs _ (fun y I=>E y (by simp[I])) o fun s D=>h s (gA.2 (.inr D));unfold fN at hm e;split at hm;{rename_i A;rw[if_pos A]at e;have J:good true a=true:=(by have:=A.1;unfold eB at this;rw[Bool.and_eq_true]at this;exact this.2);have K:fN eB a x l=((dY a x l).1,true):=(by unfold fN;rw[if_pos A]);rw[K]at h;refine⟨⟨A.1,A.2.1,aYR (f:=f) a x l J (E x (by simp)) A.2.2 fun s D b L=>h s (gA.2 (.inl D)) b ?_⟩,G⟩;rw[e,xM,L];rfl};{cases hm}};{rw[if_neg hm]at o;cases o}
theorem aUG:∀ {N:List ByteArray} {r:List ValD},r.length=N.length-> ∀s,gF s (bW N r)=if has N s=true then some (s,iZ N r s)else none
 |[],_,_,s=>by simp[bW,gF,has]
 |n::N,[],h,_=>by simp at h
 |n::N,x::r,h,s=>by have o:=aUG (N:=N) (r:=r) (by simpa using h) s;unfold bW gF at o|-;rw[List.zip_cons_cons,List.find?_cons];have A:has (n::N) s=(decide (n=s)||has N s):=rfl;rw[A];by_cases e:n=s;{subst e;simp[iZ,pD,List.findIdx_cons]};{simp only[e,decide_false,o,Bool.false_or];have:iZ (n::N) (x::r) s=iZ N r s:=(by unfold iZ pD;rw[List.findIdx_cons];simp[e]);rw[this]}
theorem aYQ {N:List ByteArray} {r:List ValD} (K:r.length=N.length) (M:okVals r) {ps:List ExprD} (L:∀s∈bL [] ps,s∈N) {o:List ValD} (G:∀x∈o,bN x): (bR eB ps o (bW N r)).2=true↔(bR eB ps o []).2=true/\(bL [] ps).map (fun n=>zV n (bR eB ps o []).1)=(bL [] ps).map (iZ N r):=by
 have E:∀s∈bL [] ps,bN (iZ N r s):=fun s h=>by obtain⟨hi,_⟩:=aHD (L s h);unfold iZ;rw[List.getD_eq_getElem?_getD,List.getElem?_eq_getElem (by omega)];exact M.1 _ (List.getElem_mem _)
 have O:agr (iZ N r) (bW N r):=fun s b A=>by rw[aUG K]at A;split at A;{cases A;rfl};{cases A}
 unfold bR;by_cases I:ps.length=o.length;{rw[if_pos I,if_pos I];constructor;{intro h;obtain⟨⟨m,e⟩,_⟩:=lW ps o _ h;have D:=yQ (f:=iZ N r) ps o _ G h fun s h1 b A=>(by rw[e,xM,aUG K,if_pos ((eT _ _).2 (L s h1))]at A;simp at A;rw[<-A]);obtain⟨h1,J⟩:=yZ ps o [] E G D (fun s b A=>by simp[gF]at A);refine⟨h1,List.map_congr_left fun n S=>?_⟩;obtain⟨b,A⟩:=aUI ((lW ps o [] h1).2 n S);unfold zV;rw[A];exact J _ _ A};{rintro⟨h1,J⟩;have D:=yQ (f:=iZ N r) ps o [] G h1 fun s U b A=>(by have:=(List.map_inj_left.1 J) s U;rw[<-this];unfold zV;rw[A];rfl);exact(yZ ps o _ E G D O).1}};{rw[if_neg I,if_neg I];simp}
end Go.Al
end
section
namespace Go.Al
open Go.Aw Go
def gO (rel:ByteArray) (pats:List ExprD) (p:PlanD):PlanD:=.mk 4 rel ⟨#[]⟩ pats [] [p]
theorem aQR {rel:ByteArray} {pats:List ExprD} (h:(shape (cB rel pats)).2=0):right (cB rel pats) []=true/\(shape (cB rel pats)).1.bare=false:=by obtain⟨_,o,A⟩:=oJ h;obtain⟨D,E,_⟩:=aHE o;refine⟨D,?_⟩;rw[A,E];rfl
theorem bLX {rel:ByteArray} {pats:List ExprD} {p:PlanD} (hp:(shape p).2=0) (o:(shape p).1.bare=false) (h:(shape (cB rel pats)).2=0):shape (gO rel pats p)=((shape p).1,0):=by
 have A:=sL [p] (by simp[hp]);have hm:=(aXY (aQR h).1).may;have D:right (gO rel pats p) [(shape p).1]=true:=by simp[right,tS,sG,wC,aWE,gO,PlanD.op,PlanD.rel,PlanD.name,PlanD.args,PlanD.aggs,nIn,aDI,o];exact fun a E=>hm a E
 rw[qX];rw[show(gO rel pats p).ins=[p]from rfl,A];simp only[if_true,List.map_cons,List.map_nil];unfold own;rw[D];rfl
theorem aKG (R:eD) (rel:ByteArray) (pats:List ExprD):aI R (cB rel pats)=((bL [] pats,rU (jN pats (kX rel R))),0):=by rw[lC];rfl
theorem bUQ {R:eD} {rel:ByteArray} {pats:List ExprD} {p:PlanD} (h:(aI R p).2=0):aI R (gO rel pats p)=(((aI R p).1.1,rU (aBQ R rel pats (aI R p).1)),0):=by have o:=qC [aI R p] (by simp[h]);rw[lC,show(gO rel pats p).ins.map (aI R)=[aI R p]from rfl,o];rfl
structure cMM (p:PlanD) (rel:ByteArray) (pats:List ExprD) (rows:List eM):Prop where
 bad:¬ (cC p rows).2=0-> ¬ (cC (aS p (cB rel pats)) rows).2=0/\ ¬ (cC (gO rel pats p) rows).2=0
 good:(cC p rows).2=0->(cC (aS p (cB rel pats)) rows).2=0/\(cC (gO rel pats p) rows).2=0/\
  (cC (aS p (cB rel pats)) rows).1.length+(cC (gO rel pats p) rows).1.length=(cC p rows).1.length/\(cC p rows).1.length<=20000000/\(∀r∈(cC p rows).1,okVals r)/\
  (∀r∈(cC (aS p (cB rel pats)) rows).1++(cC (gO rel pats p) rows).1,okVals r)/\ ∀n,(cC p rows).1.length<n->kP n ((cC (aS p (cB rel pats)) rows).1++(cC (gO rel pats p) rows).1)=(cC p rows).1
theorem bVE {p:PlanD} {rel:ByteArray} {pats:List ExprD} {rows:List eM} (op:bF p (max 1 rows.length)) (os:bF (cB rel pats) (max 1 rows.length)) (oj:bF (aS p (cB rel pats)) (max 1 rows.length)) (oa:bF (gO rel pats p) (max 1 rows.length)) (E:RowsOk rows) (dj:cS (aS p (cB rel pats))<=64) (hc:(bV p).2.2=0) (hs:(bV (cB rel pats)).2.2=0) (ae:(bV p).1≠[]) (G:∀s∈(bV (cB rel pats)).1,s∈(bV p).1):cMM p rel pats rows:=by
 have sp:=(dK.1 hc).2;have ss:=(dK.1 hs).2;have dp:=(dK.1 hc).1;have ec:∀q:PlanD,(bV q).2.2=0->(bV q).1=(shape q).1.names:=fun q hq=>by have:=dK.1 hq;unfold bV;rw[if_neg (by omega),if_pos this.2]
 rw[ec p hc]at ae G;rw[ec _ hs]at G;have dA:cS (gO rel pats p)<=64:=by rw[aNP]at dj;simp only[gO,cS,eY];omega
 refine⟨fun h=>⟨fun L=>h ?_,fun L=>h ?_⟩,fun h=>?_⟩;{obtain⟨t,M⟩:=gP.1 L;exact gP.2 ⟨_,hc,M.may,Prod.ext rfl (aGT (p:=aS p (cB rel pats)) (by rw[M.run]) (by simp[aS,PlanD.ins]))⟩};{obtain⟨t,M⟩:=gP.1 L;exact gP.2 ⟨_,hc,M.may,Prod.ext rfl (aGT (p:=gO rel pats p) (by rw[M.run]) (by simp[gO,PlanD.ins]))⟩};obtain⟨t,ht⟩:=gP.1 h;have hm:=ht.may;have g:=bCF op E hc hm;have bp:(shape p).1.bare=false:=by cases hb:(shape p).1.bare with|false=>rfl|true=>exact absurd (g.bare hb) ae
 have hP:Dok (aQ rows) p:=⟨sp,bp,by rw[ht.run]⟩;have hS:Dok (aQ rows) (cB rel pats):=⟨ss,(aQR ss).2,by rw[aKG]⟩;have hJ:=Dok.join.2 ⟨hP,hS⟩;have sA:=bLX sp bp ss (rel:=rel);have rA:=bUQ (rel:=rel) (pats:=pats) hP.run;have rJ:Runs (aS p (cB rel pats)) rows (aI (aQ rows) (aS p (cB rel pats))).1:=⟨dK.2 ⟨dj,hJ.sh⟩,hm,Prod.ext rfl hJ.run⟩;have ai:Runs (gO rel pats p) rows (aI (aQ rows) (gO rel pats p)).1:=⟨dK.2 ⟨dA,by rw[sA]⟩,hm,Prod.ext rfl (by rw[rA])⟩;obtain⟨O,np,ep,lp⟩:=aAC op E hm hP;obtain⟨ts,ns,es,ls⟩:=aAC os E hm hS;obtain⟨tj,nj,ej,lj⟩:=aAC oj E hm hJ;obtain⟨_,hIn⟩:=pS op os oj E hm hP hS;have S:=E.rels hm;rw[ht.run]at O np ep lp hIn rA;simp only at O np ep lp hIn rA;rw[aKG]at ts es hIn;simp only at ts es hIn;have D:∀s∈bL [] pats,s∈t.1:=fun s h1=>by rw[ep];exact G s (by rw[<-es];exact h1)
 have aj:(aI (aQ rows) (aS p (cB rel pats))).1.1=t.1:=by rw[wK hP.run hS.run,ht.run,aKG];show kE t.1 (bL [] pats)=t.1;unfold kE;rw[List.filter_eq_nil_iff.2 fun s h1=>by simpa using(eT _ _).2 (D s h1),List.append_nil]
 have I:∀o∈kX rel (aQ rows),∀x∈o,bN x:=fun o W=>(S.vals rel o W).1;have key:∀r∈t.2,r∈(aI (aQ rows) (aS p (cB rel pats))).1.2↔((kX rel (aQ rows)).any fun o=>(bR eB pats o (bW t.1 r)).2)=true:=by intro r h1;have hl:=O.rows r h1;have e:=aHX O.nd hl.2;have i:=hIn (iZ t.1 r);unfold Tab.In at i;rw[aj,e]at i;rw[i,List.any_eq_true];simp only;have au:∀x∈jN pats (kX rel (aQ rows)),nC x:=fun x Y=>(by have:=aXR I Y;refine okVals.row ⟨this.1,?_⟩;have L:=lR S (cB rel pats) ⟨ss,os.w,os.sz,os.es,os.rg,os.sc⟩;have M:=L.nms;rw[<-es]at M;have:=os.w;rw[‹(∀v∈x,bN v)/\x.length=_›.2];omega);rw[wJ au];constructor;{rintro⟨_,L⟩;obtain⟨o,W,Z,e2⟩:=aCC L;exact⟨o,W,(aYQ hl.2 hl.1 D (I o W)).2 ⟨Z,e2.symm⟩⟩};{rintro⟨o,W,Z⟩;obtain⟨L,M⟩:=(aYQ hl.2 hl.1 D (I o W)).1 Z;exact⟨h1,by rw[<-M];exact aQT L W⟩}
 have aa:∀r∈(aI (aQ rows) (aS p (cB rel pats))).1.2,r∈t.2:=fun r h1=>by obtain⟨f,rfl,hf⟩:=(tj.mem r).1 h1;rw[aj];exact((hIn f).1 hf).1
 have al:∀x∈aBQ (aQ rows) rel pats t,nC x:=fun x Y=>(O.rows x (List.mem_filter.1 Y).1).1.row;have U:∀r,r∈(aI (aQ rows) (gO rel pats p)).1.2↔r∈t.2/\((kX rel (aQ rows)).any fun o=>(bR eB pats o (bW t.1 r)).2)=false:=fun r=>by rw[rA];show r∈rU _↔_;rw[wJ al];unfold aBQ;rw[List.mem_filter];simp
 have av:(aI (aQ rows) (gO rel pats p)).1.2.Nodup:=by rw[rA];exact nN _
 have eJ:=rJ.eq;have eA:=ai.eq;clear rJ ai rA;generalize(aI (aQ rows) (aS p (cB rel pats))).1.2=J at*;generalize(aI (aQ rows) (gO rel pats p)).1.2=A at*;have K:∀r,r∈J++A↔r∈t.2:=fun r=>by rw[List.mem_append,U];constructor;{rintro(h1|h1);{exact aa r h1};{exact h1.1}};{intro h1;cases hb:(kX rel (aQ rows)).any fun o=>(bR eB pats o (bW t.1 r)).2 with|true=>exact .inl ((key r h1).2 hb)|false=>exact .inr ⟨h1,rfl⟩}
 have aw:(J++A).Nodup:=by rw[List.nodup_append];refine⟨nj,av,fun a ha b hb e=>?_⟩;subst e;have h1:=(U a).1 hb;rw[(key a h1.1).1 ha]at h1;cases h1.2
 have hlen:J.length+A.length=t.2.length:=by rw[<-List.length_append];exact Nat.le_antisymm (wV aw fun x Y=>(K x).1 Y) (wV np fun x Y=>(K x).2 Y)
 have gd:∀r∈t.2,cD r:=fun r E=>(O.rows r E).1.row.1;have ab:∀r,r∈jE J++jE A↔r∈t.2:=fun r=>by rw[<-K r,List.mem_append,List.mem_append,cU,cU]
 rw[eJ,eA,ht.eq];simp only[mH];refine⟨trivial,trivial,hlen,lp,fun r E=>(O.rows r (cU.1 E)).1,fun r E=>(O.rows r ((ab r).1 E)).1,fun n hn=>?_⟩;refine aQK (by simp only[List.length_append,mH];omega) (fun r E=>gd r ((ab r).1 E)) (qE gd np) fun r=>by rw[cU,ab]
end Go.Al
end
section
open Go Go.Aw Go.Proofs
open Tryz
namespace Go.Al
set_option maxRecDepth 100000
set_option maxRecDepth 20000
def G5:FnT prog f5:=.m [(2,[1,2,3,4]),(128,[9]),(0,[40]),(2,[1,2,3,4,8,9,40]),(896,[1,2,3,4,8,9,10,12]),(3584,[13,15]),(0,[12,15,68]),(1,[1,2,3,4,8,9,10,13,68]),(1,[1,2,3,4,8,9,10,13,16]),(0,[72]),(4,[72]),(0,[81]),(1,[1,2,3,4,8,9,10,13,16,81]),(384,[1,2,3,4,8,9,17,18]),(384,[9,19,20]),(12288,[1,2,3,4,21,22]),(0,[18,109]),(64,[8,17,19,20,21,22,109]),(67108864,[])]
instance:FT prog f5:=.m [(2,[1,2,3,4]),(128,[9]),(0,[40]),(2,[1,2,3,4,8,9,40]),(896,[1,2,3,4,8,9,10,12]),(3584,[13,15]),(0,[12,15,68]),(1,[1,2,3,4,8,9,10,13,68]),(1,[1,2,3,4,8,9,10,13,16]),(0,[72]),(4,[72]),(0,[81]),(1,[1,2,3,4,8,9,10,13,16,81]),(384,[1,2,3,4,8,9,17,18]),(384,[9,19,20]),(12288,[1,2,3,4,21,22]),(0,[18,109]),(64,[8,17,19,20,21,22,109]),(67108864,[])]
attribute [local simp] aM cA aZ aR lL dW cN aFK cG aU kQ
attribute [local simp] yO zU
def scC (rel:ByteArray) (pats:List ExprD):List AV:=[dC 2,aE rel,aE ⟨#[]⟩,dW pats,yO,yO]
def anC (rel:ByteArray) (pats:List ExprD) (p:PlanD):List AV:=[dC 4,aE rel,aE ⟨#[]⟩,dW pats,yO,.rd 6 [dN p]]
theorem cNE (rel:ByteArray) (pats:List ExprD):WkL (scC rel pats) (dN (cB rel pats)):=by rw[cA];exact .cons (.refl _) (.cons (.refl _) (.cons (.refl _) (.cons (.refl _) (.cons (.nil _) (.cons (.nil _) .nil)))))
theorem cRX (rel:ByteArray) (pats:List ExprD) (p:PlanD):Wk (.agg (anC rel pats p)) (aM (gO rel pats p)):=by unfold aM;exact .agg (.cons (.refl _) (.cons (.refl _) (.cons (.refl _) (.cons (.refl _) (.cons (.nil _) (.cons (.refl _) .nil))))))
theorem aPP (p:PlanD) (rel:ByteArray) (pats:List ExprD):Wk (zU 3 (.rd 6 [dN p,scC rel pats])) (aM (aS p (cB rel pats))):=
 .agg (.cons (.refl _) (.cons (.refl _) (.cons (.refl _) (.cons (.nil _) (.cons (.nil _) (.cons (.rd (.cons (.refl _) (.cons (cNE rel pats) .nil))) .nil))))))
theorem cKR {X:List ByteArray} {n:ByteArray} (h:¬n∈X):fid (fun w=>decide (w=n)) X 0= -1:=by rw[aPH,if_neg (show ¬ (X.any fun w=>decide (w=n))=true from fun e=>h ((eT X n).1 e))]
structure bZA (p:PlanD) (rel:ByteArray) (pats:List ExprD) (N:Nat):Prop where
 a:bF p N
 s:bF (cB rel pats) N
 j:bF (aS p (cB rel pats)) N
 n:bF (gO rel pats p) N
theorem bMN {p:PlanD} {rel:ByteArray} {pats:List ExprD} {rows:List eM} (h:Small (aS p (cB rel pats)) rows) (G:bC p+aL pats+rel.size<=1048570) (o:iK p) (A:iE pats):bZA p rel pats (max 1 rows.length):=by
 obtain⟨_,I,_,s1⟩:=h;have J:wT (aS p (cB rel pats))=wT p+wT (cB rel pats)+1:=by rw[rR];simp[aS,PlanD.args,PlanD.aggs,PlanD.ins,mI];omega
 have K:scM (aS p (cB rel pats))=scM p+scM (cB rel pats):=by simp[aS,scM,pT]
 have W:wT (gO rel pats p)<=wT p+wT (cB rel pats)+1:=by rw[rR,rR (cB rel pats)];simp[gO,cB,PlanD.args,PlanD.aggs,PlanD.ins];omega
 have L:scM (gO rel pats p)<=scM p+scM (cB rel pats):=by simp[gO,cB,scM,pT];omega
 have Y:bC (cB rel pats)=aL pats+rel.size+1:=by simp only[cB,bC,eG,nM,sN,List.map_nil,List.sum_nil];omega
 have Z:bC (gO rel pats p)=bC p+aL pats+rel.size+1:=by simp only[gO,bC,eG,nM,sN,List.map_nil,List.sum_nil];omega
 rw[J]at I;rw[K]at s1;have M:1<=max 1 rows.length:=by omega
 have mono:∀x,x<=scM p+scM (cB rel pats)->(max 1 rows.length) ^ x<=5000:=fun x O=>Nat.le_trans (aRG M O) s1;have es:=qQ (cB rel pats) (by omega);have S:=qQ (gO rel pats p) (by omega);have D:=qQ p (by omega);have E:iK (cB rel pats):=by simp only[cB,iK,oL];exact⟨A,trivial⟩
 have U:iK (gO rel pats p):=by simp only[gO,iK,oL];exact⟨A,o,trivial⟩
 exact⟨⟨by omega,by omega,D,o,mono _ (by omega)⟩,⟨by omega,by omega,es,E,mono _ (by omega)⟩,pJ (by omega) (by omega) D es o E (mono _ (by omega)),by omega,by omega,S,U,mono _ L⟩
theorem bDQu {X:List ByteArray} {n:ByteArray} (h:n∈X):fid (fun w=>decide (w=n)) X 0=(pD X n:Int):=by rw[aPH,if_pos (show(X.any fun w=>decide (w=n))=true from(eT X n).2 h),Nat.zero_add];rfl
theorem partsLaw_ok (p:PlanD) (rel:ByteArray) (pats:List ExprD) (rows:List eM) (O:bC p+aL pats+rel.size<=1048570) (rp:iK p) (rq:iE pats) (hl:rows.length<=1048576) (hv:∀r∈rows,iM r.2/\aJ r.2<=1048576): Con prog 5 [aM p,aE rel,dW pats,cN rows] (aD true):=by
 have hw:=aGF;have zs:bC (cB rel pats)=aL pats+rel.size+1:=by simp only[cB,bC,eG,nM,sN,List.map_nil,List.sum_nil];omega
 have z3:bC (aS p (cB rel pats))<=4194000:=by rw[aFA];omega
 have rs:iK (cB rel pats):=by simp only[cB,iK,oL];exact⟨rq,trivial⟩
 have l1:=(aAY (aS p (cB rel pats)) rows (by omega) (by omega) fun r D=>(hv r D).2).args (.cons (aPP _ _ _) (.refl _));have dp:=(aVC (aS p (cB rel pats)) (by omega)).args (.cons (aPP _ _ _) (.refl _));have tp:=aEC p (by omega);have tw:=(aEC (aS p (cB rel pats)) (by omega)).args (.cons (aPP _ _ _) (.refl _));have ka:=rQ p (by omega) (oM p rp);have S:=(rQ (cB rel pats) (by omega) (oM _ rs)).args (.cons (.agg (cNE rel pats)) .nil);have cp:=aUA pats (by omega);have nl:=aBZ p;unfold cIB at ka S;obtain⟨X,U⟩:∃X,X=(bV p).1:=⟨_,rfl⟩;obtain⟨Y,W⟩:∃Y,Y=(bV (cB rel pats)).1:=⟨_,rfl⟩;obtain⟨e,he⟩:∃e,e=(bV p).2.2:=⟨_,rfl⟩;obtain⟨f,hf⟩:∃f,f=(bV (cB rel pats)).2.2:=⟨_,rfl⟩;have lX:X.length<=8388608:=by rw[U];unfold bV;split;{simp};{split;{simp only;omega};{simp}}
 have aq:=aBZ (cB rel pats);have lY:Y.length<=8388608:=by rw[W];unfold bV;split;{simp};{split;{simp only;omega};{simp}}
 rw[<-U,<-he]at ka;rw[<-W,<-hf]at S;generalize(bV p).2.1=w1 at*;generalize(bV (cB rel pats)).2.1=w2 at*;simp only[zU,yO,scC,cA p]at l1 dp tw S;refine Con.oc func5 fun C hC hM=>?_;refine goX [] fun K o=>?_;simp[scC];refine o _ ?_;refine goX [] fun K o=>?_;simp[scC];refine ck o ?_;refine goC [{r:=aD true},{r:=aD (kK (aS p (cB rel pats)) rows)},{r:=aB (cS (aS p (cB rel pats)))}] ?_;refine .cnd (fun c1=>?_) (fun c1=>?_);{refine goC [{r:=aD true}] ?_;exact rtC};have A:kK (aS p (cB rel pats)) rows=false:=by revert c1;cases kK (aS p (cB rel pats)) rows<;>simp
 have hd:cS (aS p (cB rel pats))<=60:=by rw[A]at c1;simp at c1;omega
 have s1:=rG A;have D:RowsOk rows:=⟨s1.len,fun x hx=>⟨s1.vals x hx,hv x hx⟩⟩;have P:=bMN s1 O rp rq;have r1:=kN p rows P.a D;have r2:=kN _ rows P.j D;have r3:=(kN _ rows P.n D).args (.cons (.refl _) (.cons (cRX rel pats p) (.refl _)));simp only[anC,yO,cA p]at r3;have J:=fun a b d g=>bVE P.a P.s P.j P.n D (by omega) a b d g;rw[<-U,<-W,<-he,<-hf]at J;clear l1 dp c1 A s1 P;refine goC [{r:=aM p},{r:=.tup [aR X,aB w1,aB e]}] ?_;refine goC [{r:=dW pats},{r:=.tup [aR Y,aB w2,aB f]}] ?_;refine aA ?_;refine .cnd (fun c2=>?_) (fun c2=>?_);{refine aA ?_;exact rtC};have c2:e=0/\f=0/\X≠[]:=by revert c2;by_cases x1:e=0<;>by_cases x2:f=0<;>by_cases x3:X=[]<;>simp[x1,x2,x3]
 obtain⟨e0,f0,x0⟩:=c2;have J:=J e0 f0 x0;refine aA ?_;refine .block<| .loopG (fun i:Nat=>{tm:=[(1,aE rel),(2,dW pats),(3,cN rows),(4,.ptr 4 0),(9,.ptr 9 0),(10,aR X),(13,aR Y),(16,aB i)],hp:=[(4,.cells 57 (dN p)),(9,.cells 57 [dC 3,aE ⟨#[]⟩,aE ⟨#[]⟩,yO,yO,.rd 6 [dN p,scC rel pats]])]}) (fun i=>i<=Y.length/\ ∀j (h:j<Y.length),j<i->Y[j]∈X) (fun i=>Y.length-i) 0 ⟨by omega,fun j _ h=>by omega⟩ (by simp[scC,List.range_succ]) (fun i hi=>?_);obtain⟨a3,I⟩:=hi;refine aA ?_;refine .cnd (fun E=>?_) (fun L=>?_);{have E:i<Y.length:=(by simpa using E);have hc:=cIE X Y[i] lX;by_cases hm:Y[i]∈X;{rw[bDQu hm]at hc;refine goX [{r:=aB (pD X Y[i])}] fun K o=>?_;simp[E];refine ck o ?_;refine .cf (by simp) ?_;refine aA ?_;refine⟨i+1,⟨by omega,fun j h1 h2=>?_⟩,by omega,?_⟩;{by_cases h3:j=i;{subst h3;exact hm};{exact I j h1 (by omega)}};{simp[aC i (by omega),scC,List.range_succ]}};{rw[cKR hm]at hc;refine goX [{r:=aB (-1)}] fun K o=>?_;simp[E];refine ck o ?_;refine .ct (by simp) ?_;refine aA ?_;exact rtC}};have L:¬i<Y.length:=by simpa using L
 have J:=J fun s hs=>by obtain⟨j,h1,rfl⟩:=List.mem_iff_getElem.1 hs;exact I j h1 (by omega)
 refine .exit ?_;refine goC [{r:=aM p},{r:=.tup [aU (cC p rows).1,aB (cC p rows).2]}] ?_;refine goX [{r:=aM (aS p (cB rel pats))},{r:=.tup [aU (cC (aS p (cB rel pats)) rows).1,aB (cC (aS p (cB rel pats)) rows).2]}] fun K o=>?_;simp[scC];refine ck o ?_;refine goE [{r:=dW pats},{r:=aM p},{r:=.tup [aU (cC (gO rel pats p) rows).1,aB (cC (gO rel pats p) rows).2]}] ?_;obtain⟨J1,J2⟩:=J;clear r1 r2 r3 tw tp;generalize cC p rows=a at*;generalize cC (aS p (cB rel pats)) rows=b at*;generalize cC (gO rel pats p) rows=d at*;obtain⟨G,a2⟩:=a;obtain⟨A,b2⟩:=b;obtain⟨d1,d2⟩:=d;simp only at J1 J2|-;refine aA ?_;by_cases M:a2=0;{obtain⟨k1,k2,k3,k4,k5,k6,k7⟩:=J2 M;subst M k1 k2;have Z:=bEY ((A++d1).length+1) (A++d1) (by omega) (by simp;omega) fun r D=>(k6 r D).row.2.2;rw[k7 _ (by simp;omega)]at Z;rw[show aU (A++d1)=.rd 1 (A.map cG++d1.map cG) by simp]at Z;have sm:=H.SameRows1_ok G (by omega) fun r D=>(k5 r D).row.2.2;have hn:IntKind.i64.wrap ((A.length:Int)+d1.length)=G.length:=(by have be:A.length+d1.length=G.length:=k3;have bf:G.length<=20000000:=k4;rw[show(A.length:Int)+d1.length=((G.length:Nat):Int) by omega];exact bH (by omega) (by omega));refine .cf (by simp) ?_;refine .skip<| .seq<| .gl G5 hC 18 [{r:=aU G},{r:=aD true}] fun K o=>?_;simp[aQU,qM,hn];(repeat first|refine ob ?_ |refine⟨by intros;exact eK rfl (by repeat(first|exact WkL.nil|refine WkL.cons (by first|exact Wk.refl _|exact Wk.nil _|exact Wk.own (WkR.refl _)) ?_)) Z,?_⟩|refine⟨by intros;exact aX rfl sm,?_⟩);refine o _ ?_;exact rtC};{have k:=J1 M;refine .ct (by simp[M]) ?_;refine aA ?_;refine .re ?_;exact .clos (by simp[k.1,k.2]) rfl}
end Go.Al
end
