/- The runner: the rows of a relation that match. -/
import Derived.Test.YtackjebfmbnkbaaGreatDoorP33
import Derived.Test.YtackjebfmbnkbaaGreatDoorP11
import Derived.Test.YtackjebfmbnkbaaGreatDoorP35
import Derived.Test.YtackjebfmbnkbaaGreatDoorP23
set_option linter.unusedSimpArgs false
set_option linter.unusedVariables false
set_option linter.unusedSectionVars false
section
open Go Go.Aw Go.Proofs
open Tryz
namespace Go.Al
set_option maxRecDepth 100000
set_option maxRecDepth 20000
instance:FT prog f46:=.n
attribute [local simp] aP aV aM cA cG aU kQ aR lL aZ gS
def bHD (R:eD):List Value:=R.map fun p=>Value.string p.1
def bUT (R:eD):List AV:=R.map fun p=>aU p.2
def aOO (R:eD):AV:=.rmap (bHD R) (bUT R)
def bS (R:eD) (o:AV):AV:=.elt 3 [[.val (.pointer none),aOO R,o]] 0 0
theorem aLC (s:ByteArray):∀R:eD,eQ (.string s) (bHD R) (bUT R)=(R.find? fun p=>decide (s=p.1)).map fun p=>aU p.2
 |[]=>rfl
 |p::R=>by
  have e:eQ (.string s) (bHD (p::R)) (bUT (p::R))=if dR (.string s) (.string p.1)=true then some (aU p.2)else eQ (.string s) (bHD R) (bUT R):=rfl
  rw[e,aLC s R,List.find?_cons];simp only[dR];by_cases h:s=p.1<;>simp[h]
theorem aLK (s:ByteArray):∀ (l:List Bnd) (k:Nat),bnd s l-> ∃i,∃h:i<l.length,fid (fun b:Bnd=>decide (b.1=s)) l k=((k+i:Nat):Int)/\l[i].2=zV s l
 |[],k,h=>by obtain⟨b,A,_⟩:=h;cases A
 |b::l,k,h=>by by_cases he:b.1=s;{refine⟨0,by simp,by simp[fid,he],?_⟩;simp[zV,gF,he]};{have D:bnd s l:=(by obtain⟨c,o,e⟩:=h;rcases List.mem_cons.1 o with rfl|o;{exact absurd e he};{exact⟨c,o,e⟩});obtain⟨i,hi,e1,E⟩:=aLK s l (k+1) D;refine⟨i+1,by simpa using hi,?_,?_⟩;{rw[fid,if_neg (by simpa using he),e1];congr 1;omega};{simp only[List.getElem_cons_succ];rw[E];simp[zV,gF,he]}}
def aVT (ns:List ByteArray) (bs:List Bnd) (j:Nat):List (List AV):=(ns.map fun n=>bA (zV n bs)).take j
theorem cCA (ns:List ByteArray) (bs:List Bnd) (j:Nat) (h:j<=ns.length):(aVT ns bs j).length=j:=by simp[aVT];omega
theorem bUW (ns:List ByteArray) (bs:List Bnd) (j:Nat) (h:j<ns.length):aVT ns bs (j+1)=aVT ns bs j++[bA (zV ns[j] bs)]:=by unfold aVT;rw[List.take_succ_eq_append_getElem (by simpa using h)];simp
theorem cCB (ns:List ByteArray) (bs:List Bnd) (j:Nat) (h:ns.length<=j):aVT ns bs j=(ns.map fun n=>zV n bs).map bA:=by unfold aVT;rw[List.take_of_length_le (by simpa using h)];simp
theorem cIX (R:eD) (o:AV) (p:PlanD) (ins:List (List AV)) (ho:noref o=true) (hp:aL p.args<=1048576) (hr:∀r∈kX p.rel R,aJ r<=1099511627776) (hl:(kX p.rel R).length<=1099511627776): Con prog 46 [bS R o,aM p,.rd 2 ins] (.tup [gS (bL [] p.args) (jN p.args (kX p.rel R)),aB 0]):=by
 have hv:=cAL _ p.args (Nat.lt_succ_self _) (by omega);have ab:=xW [] p.args;rw[List.length_nil,Nat.zero_add]at ab;have Z:=aLC p.rel R;generalize ac:bL [] p.args=ns at*;refine Con.oc func46 fun C hC hM=>?_;refine goX [] fun K A=>?_;simp[bS];refine A _ ?_;refine goX [{r:=aR ns}] fun K A=>?_;simp[bS];refine ck A ?_;refine .seq ?_;have hG:∀x,R.find? (fun q=>decide (p.rel=q.1))=x->kX p.rel R=(x.map (·.2)).getD []:=fun x hx=>by unfold kX;rw[hx]
 have M:∀a∈bHD R,cW (.string p.rel) a=true:=fun a ha=>by obtain⟨q,_,rfl⟩:=List.mem_map.1 ha;rfl
 generalize ad:kX p.rel R=rows at*;refine .seqJ (fun _:Unit=>{tm:=[(4,.ptr 4 0),(6,.ptr 6 0),(8,.ptr 8 0),(27,aU rows),(28,aB rows.length),(29,aB 0)],hp:=[(4,.cells 27 (dN p)),(6,.cells 97 [.val (.slice none 0 0),.val (.slice none 0 0)]),(8,.cells 97 [aR ns,.val (.slice none 0 0)])]}) (fun _=>True) ?_ (fun hJ=>?_);{rintro- -;refine .block<| .loopG (fun k:Nat=>{tm:=[(4,.ptr 4 0),(6,.ptr 6 0),(8,.ptr 8 0),(27,aU rows),(28,aB rows.length),(29,aB k)],hp:=[(4,.cells 27 (dN p)),(6,.cells 97 [.val (.slice none 0 0),.val (.slice none 0 0)]),(8,.cells 97 [aR ns,.own 31 1 ((jN p.args (rows.take k)).map cG)])]}) (fun k=>k<=rows.length) (fun k=>rows.length-k) 0 (by omega) (by simp[jN]) (fun k hk=>?_);refine aA ?_;refine .seq<| .cnd (fun D=>?_) (fun O=>?_);{have D:k<rows.length:=(by simpa using D);have S:=hr _ (List.getElem_mem D);have hm:=aSD p.args rows[k] [] (by omega) S (fun b hb=>by cases hb) (by simp;omega);have G:=aQS p.args rows k D;have af:=aXS p.args (rows.take k);rw[List.length_take]at af;have I:=fun(h:(bR eB p.args rows[k] []).2=true) s hs=>aAU (ps:=p.args) (xs:=rows[k]) (l:=[]) h (s:=s) hs;have ag:=(bHX p.args rows[k] [] 1099511627776 S (fun b hb=>by cases hb)).2;rw[ac]at G I;generalize aj:jN p.args (rows.take k)=cur at*;generalize ao:bR eB p.args rows[k] []=ms at*;simp only[bP,iT,List.map_nil,aO]at hm;refine goX [] fun K A=>?_;simp[D];refine ck A ?_;refine goX [{r:=.tup [bP ms.1,aD ms.2]}] fun K A=>?_;simp[D,bP,iT];(repeat first|refine ob ?_ |refine⟨by intros;exact eK rfl (by repeat(first|exact WkL.nil|refine WkL.cons (by first|exact Wk.refl _|exact Wk.nil _|exact Wk.own (WkR.refl _)) ?_)) hm,?_⟩);refine A _ ?_;refine aA ?_;refine .cnd (fun J=>?_) (fun J=>?_);{have J:ms.2=false:=(by simpa using J);rw[if_neg (by rw[J];simp),List.append_nil]at G;refine .exit ?_;refine aA ?_;refine⟨k+1,by omega,by omega,?_⟩;rw[G];simp[aC k (by omega)]};have J:ms.2=true:=(by simpa using J);rw[if_pos J]at G;have I:=I J;refine aK ?_;refine .block<| .loopG (fun j:Nat=>{tm:=[(4,.ptr 4 0),(6,.ptr 6 0),(8,.ptr 8 0),(27,aU rows),(28,aB rows.length),(29,aB k),(11,bP ms.1),(13,.own 33 4 (aVT ns ms.1 j)),(43,aR ns),(44,aB ns.length),(45,aB j)],hp:=[(4,.cells 27 (dN p)),(6,.cells 97 [.val (.slice none 0 0),.val (.slice none 0 0)]),(8,.cells 97 [aR ns,.own 31 1 (cur.map cG)])]}) (fun j=>j<=ns.length) (fun j=>ns.length-j) 0 (by omega) (by simp[bP,iT,aVT]) (fun j hj=>?_);refine aA ?_;refine .seq<| .cnd (fun E=>?_) (fun U=>?_);{have E:j<ns.length:=(by simpa using E);obtain⟨i,hi,e1,e2⟩:=aLK ns[j] ms.1 0 (I _ (List.getElem_mem E));rw[Nat.zero_add]at e1;have W:=aVB ms.1 74 [.elt 1 [[aE ns[j]]] 0 0] (fun b=>decide (b.1=ns[j])) (by simp at ag;omega) rfl (fun b _=>cBH b ns[j]);rw[e1]at W;have Y:=bUW ns ms.1 j E;have aq:=cCA ns ms.1 j (by omega);generalize aVT ns ms.1 j=pre at*;rw[<-e2]at Y;refine goX [] fun K A=>?_;simp[E];refine ck A ?_;refine goX [{r:=aB i,us:=[15]}] fun K A=>?_;simp[E];(repeat first|refine ob ?_ |refine⟨by intros;exact⟨_,.cons (.closed rfl) (.cons (.clo (.cons (.ptr rfl (.cons (.closed rfl) .nil)) .nil)) .nil),W⟩,?_⟩);refine A _ ?_;refine goX [] fun K A=>?_;simp[bP,iT,iI,hi];refine ck A ?_;refine goX [] fun K A=>?_;simp[bP,iT,iI,hi];refine ck A ?_;refine⟨j+1,by omega,by omega,?_⟩;rw[Y];simp[aC j (by omega),bP,iT]};have U:¬j<ns.length:=(by simpa using U);refine .exit ?_;rw[cCB ns ms.1 j (by omega)];generalize(ns.map fun n=>zV n ms.1)=row at*;refine aK ?_;refine⟨k+1,by omega,by omega,?_⟩;rw[G];simp[aC k (by omega)]};have O:¬k<rows.length:=(by simpa using O);refine .exit ?_;rw[List.take_of_length_le (show rows.length<=k by omega)];generalize jN p.args rows=cur;refine aA ?_;exact rtC};{cases hf:R.find? (fun q=>decide (p.rel=q.1))with|none=>rw[hf]at Z;have L:rows=[]:=hG _ hf;refine dZ [] fun K A=>?_;simp[bS,aOO,Z,M];((repeat refine ob ?_);first|refine A _ ?_ |refine⟨by kernel_rfl,A _ ?_⟩);exact hJ _ () trivial (by simp[L])|some q=>rw[hf]at Z;have L:rows=q.2:=hG _ hf;refine dZ [] fun K A=>?_;simp[bS,aOO,Z,M];((repeat refine ob ?_);first|refine A _ ?_ |refine⟨by kernel_rfl,A _ ?_⟩);exact hJ _ () trivial (by simp[L])}
end Go.Al
end
section
open Go Go.Aw Go.Proofs
open Tryz
namespace Go.Al
set_option maxRecDepth 100000
set_option maxRecDepth 20000
instance:FT prog f53:=.n
attribute [local simp] aP aV aM cA cG aU kQ aR lL aZ gS
def sC (t:Tab):List AV:=[aR t.1,aU t.2]
def jM (l:List Tab):AV:=.rd 2 (l.map sC)
theorem bFQ (l:List Tab) (k:Nat) (h:k<l.length):fB (l.take (k+1))=fB (l.take k)++l[k].2:=by unfold fB;rw[List.take_succ_eq_append_getElem h,List.flatMap_append,List.flatMap_singleton]
theorem bTM (l:List Tab) (k:Nat):(fB (l.take k)).length<=(fB l).length:=by
 conv=>rhs;rw[<-List.take_append_drop k l]
 unfold fB;rw[List.flatMap_append,List.length_append];omega
theorem cAT (x:AV) (p:PlanD) (l:List Tab) (G:noref x=true) (I:l.length<=1099511627776) (hu:(fB l).length<=1099511627776): Con prog 53 [x,aM p,jM l] (.tup [gS [] (fB l),aB 0]):=by
 refine Con.oc func53 fun C J L=>?_;refine goX [] fun K o=>?_;simp[jM];refine o _ ?_;refine goX [] fun K o=>?_;simp[jM];refine o _ ?_;refine goX [] fun K o=>?_;simp[jM];refine o _ ?_;refine .block<| .loopG (fun k:Nat=>{tm:=[(6,.ptr 6 0),(8,.ptr 8 0),(11,jM l),(12,aB l.length),(13,aB k)],hp:=[(6,.cells 97 [.val (.slice none 0 0),.val (.slice none 0 0)]),(8,.cells 97 [.val (.slice none 0 0),.own 31 1 ((fB (l.take k)).map cG)])]}) (fun k=>k<=l.length) (fun k=>l.length-k) 0 (by omega) (by simp[fB,jM]) (fun k hk=>?_);refine goX [] fun K o=>?_;simp[jM];refine o _ ?_;refine .seq<| .cnd (fun A=>?_) (fun D=>?_);{have A:k<l.length:=(by simpa using A);have E:=bFQ l k A;have hle:=bTM l (k+1);rw[E,List.length_append]at hle;generalize fB (l.take k)=cur at*;refine goX [] fun K o=>?_;simp[A,jM,sC];refine ck o ?_;refine goX [] fun K o=>?_;simp[A,jM,sC];refine ck o ?_;refine goX [] fun K o=>?_;simp[A,jM,sC];refine ck o ?_;refine⟨k+1,by omega,by omega,?_⟩;rw[E];simp[aC k (by omega),jM]};have D:¬k<l.length:=by simpa using D
 refine .exit ?_;rw[List.take_of_length_le (show l.length<=k by omega)];generalize fB l=cur;refine aA ?_;refine .re ?_;exact .tup (.cons (.agg (.cons .nil (.cons (.closed rfl) .nil))) (.cons (.closed rfl) .nil))
end Go.Al
end
section
open Go Go.Aw Go.Proofs
open Tryz
namespace Go.Al
set_option maxRecDepth 100000
set_option maxRecDepth 20000
instance:FT prog f79:=.n
instance:FT prog f112:=.n
attribute [local simp] aP aV cG aU kQ aR lL aZ gS sC
def mE (t:Tab):AV:=.elt 2 [sC t] 0 0
theorem aIY (t:Tab):Con prog 79 [gS t.1 t.2] (.clo (.func 112) [mE t]):=by refine Con.oc func79 fun C o A=>?_;refine aK ?_;refine .re ?_;exact .clo (.cons (.ptr rfl (.cons (.closed rfl) (.cons (.closed rfl) .nil))) .nil)
def nY (t:Tab):List (List AV):=t.2.map fun r=>[aO r,bP (bW t.1 r)]
@[simp] theorem bOJ (t:Tab):(nY t).length=t.2.length:=by simp[nY]
theorem aUH (t:Tab) (k:Nat) (h:k<t.2.length):(nY t)[k]? =some [aO t.2[k],bP (bW t.1 t.2[k])]:=by simp_all [nY,List.getElem?_map,List.getElem?_eq_getElem]
theorem aCU {t:Tab} {k:Nat} {x:List AV} (h:(nY t)[k]? =some x):∃hk:k<t.2.length,x=[aO t.2[k],bP (bW t.1 t.2[k])]:=by
 have hk:k<t.2.length:=by by_cases hk:k<t.2.length;{exact hk};{rw[List.getElem?_eq_none (by simpa using hk)]at h;cases h}
 grind [aUH,Option.some.inj]
def bEL (ns:List ByteArray) (r:List ValD) (j:Nat):List (List AV):=((bW ns r).take j).map iI
theorem bYJ (ns:List ByteArray) (r:List ValD):bEL ns r 0=[]:=rfl
theorem aLX (ns:List ByteArray) (r:List ValD) (h:ns.length<=r.length):(bW ns r).length=ns.length:=by simp_all [bW,List.length_zip]
theorem cGH (ns:List ByteArray) (r:List ValD) (h:ns.length<=r.length) (j:Nat) (o:j<=ns.length):(bEL ns r j).length=j:=by simp_all [bEL,List.length_map,List.length_take,aLX]
theorem bYK (ns:List ByteArray) (r:List ValD) (j:Nat) (h1:j<ns.length) (o:j<r.length):bEL ns r (j+1)=bEL ns r j++[iI (ns[j],r[j])]:=by
 have A:j<(bW ns r).length:=by unfold bW;rw[List.length_zip];omega
 unfold bEL;simp_all [List.take_succ_eq_append_getElem,List.map_append,List.map_cons,List.map_nil,bW]
theorem cGI (ns:List ByteArray) (r:List ValD) (h:ns.length<=r.length) (j:Nat) (o:ns.length<=j):bEL ns r j=iT (bW ns r):=by unfold bEL;rw[List.take_of_length_le (by simp_all [aLX])];rfl
theorem bYM (t:Tab) (hl:t.2.length<=1099511627776) (hn:t.1.length<=1048576) (hr:∀r∈t.2,t.1.length<=r.length/\r.length<=1099511627776):bZF prog 112 [mE t] (nY t):=by
 intro G Y nm H m hm ab ac ad hH hw ae M;simp only[bOJ]at hm|-;obtain⟨ns,rows⟩:=t;simp only at hl hn hr hm;have o:∀k,∀p∈H k,lk (H k) p.1=some p.2:=fun k=>aSK (by rw[hH];exact ac);have J:∀k,∀p∈H k,p.1∈nm:=fun k p hp=>by rw[<-hH k];exact List.mem_map_of_mem hp
 have A:∀k,∀p∈H k,p.2.within ((H k).map (·.1)):=fun k p hp=>by rw[hH];exact hw k p hp
 refine ConM.of_code func112 (by kernel_rfl) rfl (by simp[ntmps112]) (by simp[ntmps112]) (fun b k hb=>ad b (by rw[<-hH 0];simpa using nT hb)) (fun b k hb=>jY (by rw[hH,<-hH 0];exact nT hb)) rfl (fun C hC aq=>?_);refine goX [] fun K D=>?_;simp[mE];refine D _ ?_;refine .block<| .loopG (fun k:Nat=>{tm:=[(0,yv Y),(1,mE (ns,rows)),(9,aU rows),(10,aB rows.length),(11,aB k)],hp:=H k}) (fun k=>k<=m) (fun k=>rows.length-k) 0 (by omega) (AS.le_blocks (by simp[gZ,mE,wk1]) (o 0) (A 0)) (fun k hk=>?_);refine aA ?_;refine .seq<| .cnd (fun E=>?_) (fun O=>?_);{have E:k<rows.length:=(by simpa using E);have S:=hr rows[k] (List.getElem_mem E);have hx:=aUH (ns,rows) k E;simp only at hx;obtain⟨⟨n0,b1⟩,t1,e1⟩:∃b t,H (k+1)=b::t:=(by cases h:H (k+1)with|nil=>exact absurd (by rw[<-hH (k+1),h];rfl) ab|cons b t=>exact⟨b,t,rfl⟩);have L:∀ (s0:AS),(∀p∈H (k+1),lk (s0.setBs ((n0,b1)::t1)).hp p.1=some p.2):=fun s0 p hp=>(by rw[bHZ,<-e1,o (k+1) p hp]);refine goX [] fun K D=>?_;simp[E,mE];refine ck D ?_;refine goX [] fun K D=>?_;simp[E,mE];refine D _ ?_;refine goX [] fun K D=>?_;simp[E,mE];refine D _ ?_;refine .block ?_;generalize aj:rows[k]=r at*;refine .loopG (fun j:Nat=>{tm:=[(0,yv Y),(1,mE (ns,rows)),(4,aO r),(5,.own 134 5 (bEL ns r j)),(9,aU rows),(10,aB rows.length),(11,aB k),(16,aR ns),(17,aB ns.length),(18,aB j)],hp:=H k}) (fun j=>j<=ns.length) (fun j=>ns.length-j) 0 (by omega) (AS.le_blocks (by simp[gZ,mE,wk1,bYJ,aj]) (o k) (A k)) (fun j hj=>?_);refine aA ?_;refine .seq<| .cnd (fun I=>?_) (fun U=>?_);{have I:j<ns.length:=(by simpa using I);have Z:j<r.length:=(by omega);have ak:=bYK ns r j I Z;have ar:=cGH ns r S.1 j (by omega);refine goX [] fun K D=>?_;simp[I,Z];refine ck D ?_;refine goX [] fun K D=>?_;simp[I,Z];refine ck D ?_;refine goX [] fun K D=>?_;simp[I,Z];refine ck D ?_;refine⟨j+1,by omega,by omega,AS.le_blocks ?_ (o k) (A k)⟩;rw[ak];simp[gZ,mE,wk1,iI,aC j (by omega)]};have U:¬j<ns.length:=(by simpa using U);refine .exit ?_;rw[cGI ns r S.1 j (by omega)];by_cases al:k<m;{have W:=ae k _ al hx;rw[e1]at W;refine goX [{r:=.val (.bool true),us:=nm,bs:=(n0,b1)::t1}] fun K D=>?_;simp[mE];refine⟨bSD W (.cons .refl (.cons .refl .nil)) (by rw[hH,<-e1,hH]) (by rw[hH];simp) (fun p hp=>by simp only[View.filt];rw[if_pos (J k p hp)];exact o k p hp) (fun p hp=>by rw[hH];exact hw k p hp) rfl,?_⟩;refine D _ ?_;refine .forget (s':={tm:=[(0,yv Y),(1,mE (ns,rows)),(9,aU rows),(10,aB rows.length),(11,aB k),(37,aD false)],hp:=H (k+1)}) (AS.le_blocks (by simp[gZ,wk1,mE]) (L _) (A _)) ?_;refine .cf (by simp) ?_;refine aA ?_;refine⟨k+1,by omega,by omega,AS.le_blocks ?_ (o (k+1)) (A _)⟩;simp[gZ,wk1,mE,aC k (by omega)]};{obtain rfl:k=m:=(by omega);have W:=M _ hx;rw[e1]at W;refine goX [{r:=.val (.bool false),us:=nm,bs:=(n0,b1)::t1}] fun K D=>?_;simp[mE];refine⟨bSD W (.cons .refl (.cons .refl .nil)) (by rw[hH,<-e1,hH]) (by rw[hH];simp) (fun p hp=>by simp only[View.filt];rw[if_pos (J k p hp)];exact o k p hp) (fun p hp=>by rw[hH];exact hw k p hp) rfl,?_⟩;refine D _ ?_;refine .forget (s':={tm:=[(0,yv Y),(1,mE (ns,rows)),(9,aU rows),(10,aB rows.length),(11,aB k),(37,aD true)],hp:=H (k+1)}) (AS.le_blocks (by simp[gZ,wk1,mE]) (L _) (A _)) ?_;refine .ct (by simp) ?_;rw[if_pos E];refine .ret ⟨.inr rfl,⟨[],rfl,.refl⟩,rfl,AS.le_blocks trivial (o (k+1)) (A _)⟩}};have O:¬k<rows.length:=by simpa using O
 refine .exit ?_;obtain rfl:k=m:=by omega
 rw[if_neg O];refine⟨.inl rfl,⟨[],rfl,.refl⟩,rfl,?_⟩;exact AS.le_blocks trivial (o k) (A k)
end Go.Al
end
section
open Go Go.Aw Go.Proofs
open Tryz
namespace Go.Al.H
set_option maxRecDepth 100000
instance:FT prog f60:=.n
instance:FT prog f33:=.n
instance:FT prog f29:=.n
attribute [local simp] aP aV cG aU
theorem bGU (l:List ValD) (E:l.length<=1099511627776) (h:∀v∈l,Con prog 60 [aP v,aP v] (aD true)):Con prog 33 [aO l,aO l] (aD true):=by refine Con.oc func33 fun C G I=>?_;refine aK ?_;refine .cf (by simp) ?_;refine aA ?_;refine .block<| .loopG (fun k:Nat=>{tm:=[(0,aO l),(1,aO l),(5,aB k)],hp:=[]}) (fun k=>k<=l.length) (fun k=>l.length-k) 0 (by omega) (by simp) (fun k hk=>?_);refine aA ?_;refine .cnd (fun o=>?_) (fun A=>?_);{have o:k<l.length:=(by simpa using o);have J:=h _ (List.getElem_mem o);refine dZ [{r:=aD true}] fun K D=>?_;simp[o];refine ck D ?_;refine .cf (by simp) ?_;refine aA ?_;refine⟨k+1,by omega,by omega,?_⟩;simp[aC k (by omega)]};refine .exit ?_;refine aA ?_;exact rtC
theorem cBN:∀ (n:Nat) (v:ValD),aY v<n->aY v<=1099511627776->Con prog 60 [aP v,aP v] (aD true):=by intro n;induction n with|zero=>intro v h;omega|succ n o=>intro v E G;have A:=cM v;have hlen:=bJ v.l;have I:=bGU v.l (by omega) fun x D=>(by have:=bO D;exact o x (by omega) (by omega));refine Con.oc func60 fun C J K=>?_;refine aA ?_;refine goC [{r:=aD true}] ?_;refine .re ?_;exact .clos (by simp) rfl
theorem SameRow1_ok (l:List ValD) (A:aJ l<=1099511627776):Con prog 33 [aO l,aO l] (aD true):=
 bGU l (by have:=bJ l;omega) fun v o=>cBN _ v (Nat.lt_succ_self _) (by have:=bO o;omega)
theorem SameRows1_ok (l:Rows) (E:l.length<=1099511627776) (h:∀r∈l,aJ r<=1099511627776):Con prog 29 [aU l,aU l] (aD true):=by refine Con.oc func29 fun C G I=>?_;refine aK ?_;refine .cf (by simp) ?_;refine aA ?_;refine .block<| .loopG (fun k:Nat=>{tm:=[(0,aU l),(1,aU l),(5,aB k)],hp:=[]}) (fun k=>k<=l.length) (fun k=>l.length-k) 0 (by omega) (by simp) (fun k hk=>?_);refine aA ?_;refine .cnd (fun o=>?_) (fun A=>?_);{have o:k<l.length:=(by simpa using o);have J:=SameRow1_ok _ (h _ (List.getElem_mem o));refine dZ [{r:=aD true}] fun K D=>?_;simp[o];refine ck D ?_;refine .cf (by simp) ?_;refine aA ?_;refine⟨k+1,by omega,by omega,?_⟩;simp[aC k (by omega)]};refine .exit ?_;refine aA ?_;exact rtC
end Go.Al.H
end
