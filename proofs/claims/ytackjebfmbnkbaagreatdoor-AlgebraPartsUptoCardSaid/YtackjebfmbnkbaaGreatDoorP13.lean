/- The document's values and the program's: what may be, in plain words; both say the same. -/
import Derived.Test.YtackjebfmbnkbaaGreatDoorP12
import Derived.Lib.SlTrimSet
import Derived.Lib.Bytealg
import Derived.Lib.Strings
set_option linter.unusedSimpArgs false
set_option linter.unusedVariables false
set_option linter.unusedSectionVars false
namespace Go.Al
open Go.Aw Go
def aP (v:ValD):AV:=.agg [dC v.kind,aB v.n,aE v.s,.rd 4 (v.l.map bA)]
attribute [simp] aP aO
def bl (s:ByteArray):List UInt8:=s.data.toList
theorem dQ (s:ByteArray):(bl s).length=s.size:=by rfl
theorem aFU (s:ByteArray) (i:Nat) (h:i<(bl s).length):chr s i=((bl s)[i].toNat:Int):=by
 have o:i<s.data.size:=by simpa[bl]using h
 obtain⟨d⟩:=s;unfold chr;congr 2;show d[i]! =d.toList[i];simp[*]
theorem vZ {s t:ByteArray} (h:bl s=bl t):s=t:=by obtain⟨⟨a⟩⟩:=s;simp_all [bl]
theorem kM (s:ByteArray) (a b:Nat):bl (s.extract a b)=((bl s).drop a).take (b-a):=by have:=Lib.extract_toList s a b;rw[Lib.toList_data]at this;exact this
theorem lQ {s:ByteArray} (h:¬s=⟨#[]⟩):0<s.size:=by simp_all [Nat.pos_of_ne_zero,vZ,bl,dQ,List.eq_nil_of_length_eq_zero]
theorem aKD {s:ByteArray}:s=⟨#[]⟩↔s.size=0:=by simp
def dE (p:Int->Bool) (s:ByteArray) (k:Nat):Bool:=((bl s).drop k).all fun b=>p (b.toNat:Int)
theorem iD (p:Int->Bool) (s:ByteArray) (k:Nat) (h:k<s.size):dE p s k=(p (chr s k)&&dE p s (k+1)):=by
 have hk:k<(bl s).length:=by rw[dQ];exact h
 grind [dE,List.drop_eq_getElem_cons,aFU]
theorem rO (p:Int->Bool) (s:ByteArray) (k:Nat) (h:s.size<=k):dE p s k=true:=by simp_all [dE,List.drop_eq_nil_of_le,dQ]
def nI (c:Int):Bool:=decide (48<=c)&&decide (c<=57)
def oS (s:ByteArray):Bool:=!decide (s=⟨#[]⟩)&&decide (s.size<=32)&&jQ (chr s 0)&&dE iG s 0
def cPJ (s:ByteArray):Nat->Nat->Nat
 |0,k=>k
 |n+1,k=>if chr s k=46 then k else cPJ s n (k+1)
def dL (s:ByteArray) (k:Nat):Nat:=cPJ s (s.size-k) k
theorem zA (s:ByteArray) (k:Nat) (h:k<s.size):dL s k=if chr s k=46 then k else dL s (k+1):=by unfold dL;rw[show s.size-k=(s.size-(k+1))+1 by omega,cPJ]
theorem aBM (s:ByteArray) (k:Nat) (h:s.size<=k):dL s k=k:=by unfold dL;rw[show s.size-k=0 by omega];rfl
theorem aFL (s:ByteArray):∀ (n k:Nat),k+n=s.size->dL s k<=s.size/\k<=dL s k:=by intro n;induction n with|zero=>simp[aBM]|succ n o=>grind [zA]
theorem bXR (s:ByteArray):∀ (n k:Nat),k+n=s.size->Lib.indexByte ((bl s).drop k) 46=if dL s k<s.size then((dL s k-k:Nat):Int)else-1:=by intro n;induction n with|zero=>intro k h;rw[aBM s k (by omega),if_neg (by omega),List.drop_eq_nil_of_le (by grind [dQ])];rfl|succ n D=>intro k h;have hk:k<(bl s).length:=(by grind [dQ]);have A:=aFU s k hk;have hle:=aFL s n (k+1) (by omega);rw[List.drop_eq_getElem_cons hk,zA s k (by omega),Lib.indexByte,D (k+1) (by omega)];by_cases o:chr s k=46;{have:((bl s)[k]==46)=true:=(by rw[A]at o;have h1:(bl s)[k].toNat=46:=(by omega);have:(bl s)[k]=46:=UInt8.toNat_inj.1 h1;rw[this];rfl);grind};{have:((bl s)[k]==46)=false:=(by rw[beq_eq_false_iff_ne];intro e;rw[A,e]at o;exact o rfl);grind}
theorem cFT (s:ByteArray):Lib.indexByte (bl s) 46=if dL s 0<s.size then(dL s 0:Int)else-1:=by have:=bXR s s.size 0 (by omega);assumption
def aXK:ByteArray:=⟨#[116,114,117,101]⟩
def aJZ:ByteArray:=⟨#[102,97,108,115,101]⟩
def xR (s:ByteArray):Bool:=!(decide (s=aXK)||decide (s=aJZ))&&
 (if dL s 0<s.size then oS (s.extract 0 (dL s 0))&&oS (s.extract (dL s 0+1) s.size)else oS s)
def aES (s:ByteArray):Bool:=!decide (s=⟨#[]⟩)&& !(decide (1<s.size)&&decide (chr s 0=48))&&dE nI s 0
def fJ (s:ByteArray):Bool:=
 if(decide (1<s.size)&&decide (chr s 0=45))=true then !decide (chr (s.extract 1 s.size) 0=48)&&aES (s.extract 1 s.size)else aES s
def mW (s:ByteArray):Int:=if chr s 0=45 then(s.size:Int)-1 else s.size
theorem kO {s:ByteArray} (h:fJ s=true):0<s.size:=by refine lQ fun e=>?_;subst e;revert h;decide
def kZ (s p:ByteArray):Bool:=decide (p.size<=s.size)&&decide (s.extract 0 p.size=p)
def dP (s p:ByteArray):ByteArray:=if kZ s p=true then s.extract p.size s.size else s
def tMinus:ByteArray:=⟨#[45]⟩
def iB:ByteArray:=⟨#[48,49,50,51,52,53,54,55,56,57]⟩
def lB (s cs:ByteArray):ByteArray:=⟨(Lib.trimS (bl s) (bl cs)).toArray⟩
def aHM (s:ByteArray):Bool:=
 !(decide (dP s tMinus=⟨#[]⟩)|| !decide (lB (dP s tMinus) iB=⟨#[]⟩)||(decide (chr (dP s tMinus) 0=48)&& !decide (s=⟨#[48]⟩)))
def aAO (s:ByteArray):Int:=if aHM s=true then(dP s tMinus).size else 0
theorem aCD (s:ByteArray):kZ s tMinus=(decide (0<s.size)&&decide (chr s 0=45)):=by unfold kZ;have h1:tMinus.size=1:=rfl;rw[h1];by_cases h:0<s.size;{have o:0<(bl s).length:=(by rw[dQ];exact h);have D:=aFU s 0 o;have:(s.extract 0 1=tMinus)↔chr s 0=45:=(by rw[D];constructor;{intro e;have e1:=congrArg bl e;rw[kM]at e1;obtain⟨a,l,A⟩:=List.exists_cons_of_length_pos o;simp only[A,List.drop_zero,List.getElem_cons_zero]at e1|-;have: [a]=[45]:=e1;injection this with h1 _;rw[h1];rfl};{intro e;refine vZ ?_;rw[kM];obtain⟨a,l,A⟩:=List.exists_cons_of_length_pos o;simp only[A,List.drop_zero,List.getElem_cons_zero]at e|-;have:a=45:=UInt8.toNat_inj.1 (by have:(45:UInt8).toNat=45:=rfl;omega);rw[this];rfl});simp only[this,h,Nat.succ_le_of_lt h,decide_true,Bool.true_and]};simp[*]
theorem bTQ (l cs:List UInt8):Lib.trimS l cs=[]↔ ∀b∈l,cs.contains b=true:=by
 have drop_nil:∀ (p:UInt8->Bool) (l:List UInt8),l.dropWhile p=[]↔ ∀b∈l,p b=true:=by intro p l;induction l with|nil=>simp|cons a l G=>rw[List.dropWhile_cons];by_cases h:p a=true;{rw[if_pos h,G];simp[h]};{rw[if_neg h];simp[h]}
 unfold Lib.trimS Lib.trimLeftS Lib.trimRightS;rw[drop_nil];constructor;{intro h;have A:∀b∈l.reverse.dropWhile (cs.contains ·),cs.contains b=true:=fun b o=>h b (by simpa using o);have D:l.reverse.dropWhile (cs.contains ·)=[]:=(by cases E:l.reverse.dropWhile (cs.contains ·)with|nil=>rfl|cons a r=>rw[E]at A;have I:=A a (by simp);have J:¬ (cs.contains a=true):=(by have:=List.head?_dropWhile_not (cs.contains ·) l.reverse;rw[E]at this;simpa using this);exact absurd I J);rw[drop_nil]at D;intro b o;exact D b (by simpa using o)};grind
theorem aAB (s:ByteArray):(lB s iB=⟨#[]⟩)↔dE nI s 0=true:=by
 have h1:(lB s iB=⟨#[]⟩)↔Lib.trimS (bl s) (bl iB)=[]:=by constructor;{intro e;have:=congrArg bl e;simpa[lB,bl]using this};{intro e;unfold lB;rw[e]}
 rw[h1,bTQ,dE,List.drop_zero,List.all_eq_true];have key:∀b:UInt8,(bl iB).contains b=nI (b.toNat:Int):=by have:∀n:Fin 256,(bl iB).contains (UInt8.ofNat n.val)=nI (n.val:Int):=(by decide+kernel);intro b;have h:=this ⟨b.toNat,b.toNat_lt⟩;simpa using h
 simp_all
theorem cLF (s:ByteArray) (h:s.size=1) (c:UInt8):s=⟨#[c]⟩↔chr s 0=(c.toNat:Int):=by
 have A:(bl s).length=1:=by assumption
 have D:0<(bl s).length:=by omega
 rw[aFU s 0 D];obtain⟨a,o⟩:∃a,bl s=[a]:=by match E:bl s,A with|[a],_=>simp
 simp only[o,List.getElem_cons_zero];constructor;{rintro rfl;have: [c]=[a]:=o;simp_all};{intro e;have:a=c:=UInt8.toNat_inj.1 (by omega);refine vZ ?_;rw[o,this];rfl}
theorem mY (s:ByteArray) (h:0<s.size):(s.extract 1 s.size).size=s.size-1:=by simp
theorem aHK (s:ByteArray):aHM s=fJ s:=by unfold aHM fJ dP;rw[aCD];by_cases I:0<s.size;{by_cases hm:chr s 0=45;{have h1:(decide (0<s.size)&&decide (chr s 0=45))=true:=(by simp[*]);rw[if_pos h1];have E:=mY s I;generalize J:s.extract tMinus.size s.size=d;have o:s.extract 1 s.size=d:=J;rw[o]at E;rw[o];have A:s≠⟨#[48]⟩:=(by rintro rfl;revert hm;decide);simp only[A,decide_false,Bool.not_false,Bool.and_true];by_cases D:1<s.size;{have K:¬d=⟨#[]⟩:=(by rw[aKD];omega);have e1:(decide (1<s.size)&&decide (chr s 0=45))=true:=(by simp[D,hm]);rw[if_pos e1];unfold aES;have L:=aAB d;grind};{have M:d=⟨#[]⟩:=(by rw[aKD];omega);have e1:(decide (1<s.size)&&decide (chr s 0=45))=false:=(by simp[D]);rw[e1];simp only[Bool.false_eq_true,if_false];grind [dE,nI,iD,aES]}};{have h1:¬ (decide (0<s.size)&&decide (chr s 0=45))=true:=(by simp[hm]);have D:¬ (decide (1<s.size)&&decide (chr s 0=45))=true:=(by simp[hm]);rw[if_neg h1,if_neg D];unfold aES;have A:¬s=⟨#[]⟩:=(by rw[aKD];omega);have L:=aAB s;have O:(decide (chr s 0=48)&& !decide (s=⟨#[48]⟩))=(decide (1<s.size)&&decide (chr s 0=48)):=(by by_cases h48:chr s 0=48;{by_cases G:s.size=1;{have:=(cLF s G 48).2 (by rw[h48];rfl);simp[this,show ¬1<s.size by omega];decide};{have:s≠⟨#[48]⟩:=(by rintro rfl;exact G rfl);simp[h48,this,show 1<s.size by omega]}};{simp[h48]});grind}};{have:s=⟨#[]⟩:=(by simp_all);subst this;decide}
theorem aDL (s:ByteArray) (h:aHM s=true):aAO s=mW s:=by have hp:0<s.size:=kO (by rw[<-aHK];exact h);unfold aAO mW dP;rw[if_pos h,aCD];by_cases hm:chr s 0=45;{rw[if_pos (by simp[hp,hm]),if_pos hm];have:s.extract tMinus.size s.size=s.extract 1 s.size:=rfl;rw[this,mY s hp];omega};simp[*]
def bU (v:ValD):Bool:=
 if v.kind=1 then(decide (v.n=0)||decide (v.n=1))&&decide (v.s=⟨#[]⟩)&&decide (v.l.length=0)
 else if v.kind=2 then decide (v.s=⟨#[]⟩)&&decide (v.l.length=0)
 else if v.kind=3 then decide (v.n=0)&&decide (v.l.length=0)&&fJ v.s
 else if v.kind=4 then decide (v.n=0)&&decide (v.l.length=0)
 else if v.kind=5 then decide (v.n=0)&&decide (v.s=⟨#[]⟩)&& !decide (v.l.length=1)
 else if v.kind=6 then decide (v.n=0)&&xR v.s
 else false
def fV (v:ValD):Bool:=
 if v.kind=3 then decide (mW v.s<=200)else if v.kind=4 then decide (v.s.size<=4096)else if v.kind=5 then decide (v.l.length<=16)else if v.kind=6 then decide (v.l.length<=8)else true
mutual
def gW:ValD->Bool
 | .mk kind n s l=>bU (.mk kind n s l)&&gB l
def gB:List ValD->Bool
 |[]=>true
 |v::l=>gW v&&gB l
end
mutual
def aBG:ValD->Bool
 | .mk kind n s l=>fV (.mk kind n s l)&&tU l
def tU:List ValD->Bool
 |[]=>true
 |v::l=>aBG v&&tU l
end
mutual
def depth:ValD->Nat
 | .mk _ _ _ l=>iP l+1
def iP:List ValD->Nat
 |[]=>0
 |v::l=>max (depth v) (iP l)
end
theorem qP (v:ValD):gW v=(bU v&&gB v.l):=by cases v;rfl
theorem aIF (v:ValD):aBG v=(fV v&&tU v.l):=by cases v;rfl
theorem bJJ (v:ValD):depth v=iP v.l+1:=by cases v;rfl
theorem aFF (l:List ValD) (k:Nat) (h:k<l.length):gB (l.drop k)=(gW l[k]&&gB (l.drop (k+1))):=by rw[List.drop_eq_getElem_cons h,gB]
theorem bNQ (l:List ValD) (k:Nat) (h:k<l.length):tU (l.drop k)=(aBG l[k]&&tU (l.drop (k+1))):=by rw[List.drop_eq_getElem_cons h,tU]
theorem aWH (a b:List ValD):iP (a++b)=max (iP a) (iP b):=by induction a with|nil=>rfl|cons x a o=>simp_all [List.cons_append,iP]
theorem bJI (l:List ValD) (k:Nat) (h:k<l.length):iP (l.take (k+1))=max (iP (l.take k)) (depth l[k]):=by grind [List.take_succ_eq_append_getElem,aWH,iP]
mutual
theorem cFW:∀v:ValD,depth v<=aY v| .mk _ _ _ l=>by have:=aLP l;grind [depth,aY]
theorem aLP:∀l:List ValD,iP l<=aJ l
 |[]=>by simp[iP]
 |v::l=>by have:=cFW v;have:=aLP l;grind [iP,aJ]
end
def cF (v:ValD):Int:=if 64<depth v then 65 else if gW v=false then 4 else if aBG v=false then 40 else 0
mutual
def nX:ValD->Int->Nat
 | .mk _ _ _ l,m=>jR l m 0+1
def jR:List ValD->Int->Nat->Nat
 |[],_,n=>n
 |v::l,m,n=>if m<=(n:Int)then n else jR l m (max n (nX v (m-1)))
end
theorem bXS (v:ValD) (m:Int):nX v m=jR v.l m 0+1:=by cases v;rfl
theorem bEB (l:List ValD) (m:Int) (k n:Nat) (h:k<l.length):jR (l.drop k) m n=if m<=(n:Int)then n else jR (l.drop (k+1)) m (max n (nX l[k] (m-1))):=by rw[List.drop_eq_getElem_cons h,jR]
mutual
theorem aTW:∀ (v:ValD) (m:Int) (k:Nat),(k:Int)<=m->(k<nX v m↔k<depth v)| .mk _ _ _ l,m,k,h=>by simp only[nX,depth];cases k with|zero=>omega|succ k=>have:=aNY l m k 0 (by omega);omega
theorem aNY:∀ (l:List ValD) (m:Int) (k n:Nat),(k:Int)<m->(k<jR l m n↔k<max n (iP l))
 |[],m,k,n,h=>by simp[jR,iP]
 |v::l,m,k,n,h=>by simp only[jR,iP];split;{omega};{have h1:=aNY l m k (max n (nX v (m-1))) h;have o:=aTW v (m-1) k (by omega);omega}
end
mutual
theorem bAO:∀ (v:ValD) (m:Int),nX v m<=aY v| .mk _ _ s l,m=>by have:=aFN l m 0;grind [nX,aY]
theorem aFN:∀ (l:List ValD) (m:Int) (n:Nat),jR l m n<=max n (aJ l)
 |[],m,n=>by grind [jR]
 |v::l,m,n=>by simp only[jR,aJ];split;{omega};{have:=aFN l m (max n (nX v (m-1)));have:=bAO v (m-1);omega}
end
def fU (v:ValD):Bool:=
 if v.kind=3 then decide (aAO v.s<=200)else if v.kind=4 then decide (v.s.size<=4096)else if v.kind=5 then decide (v.l.length<=16)else if v.kind=6 then decide (v.l.length<=8)else true
mutual
def aIG:ValD->Bool
 | .mk kind n s l=>fU (.mk kind n s l)&&vQ l
def vQ:List ValD->Bool
 |[]=>true
 |v::l=>aIG v&&vQ l
end
theorem cFA (v:ValD):aIG v=(fU v&&vQ v.l):=by cases v;rfl
mutual
theorem aZU:∀v:ValD,gW v=true->aIG v=aBG v| .mk kind n s l,h=>by simp only[gW,Bool.and_eq_true]at h;simp only[aIG,aBG,aTH l h.2];congr 1;unfold fU fV;by_cases hk:(ValD.mk kind n s l).kind=3;{rw[if_pos hk,if_pos hk];have h1:=h.1;unfold bU at h1;rw[if_neg (by omega),if_neg (by omega),if_pos hk]at h1;simp only[Bool.and_eq_true]at h1;rw[aDL _ (by rw[aHK];exact h1.2)]};simp[*]
theorem aTH:∀l:List ValD,gB l=true->vQ l=tU l|[],_=>rfl|v::l,h=>by simp only[gB,Bool.and_eq_true]at h;simp only[vQ,tU,aZU v h.1,aTH l h.2]
end
theorem bPS (v:ValD):(if 64<nX v 65 then(65:Int)else if gW v=false then 4 else if aIG v=false then 40 else 0)=cF v:=by unfold cF;have:=aTW v 65 64 (by omega);simp_all [depth,if_pos,if_neg,gW,aZU]
end Go.Al
namespace Go.Al
open Go.Aw Go
def tDot:ByteArray:=⟨#[46]⟩
def vV (s:ByteArray):ByteArray:=if dL s 0<s.size then s.extract 0 (dL s 0)else s
def vU (s:ByteArray):ByteArray:=if dL s 0<s.size then s.extract (dL s 0+1) s.size else⟨#[]⟩
def aIP (s:ByteArray):Bool:=decide (dL s 0<s.size)
theorem bXW (s:ByteArray):(oS (vV s)&&((aIP s&&oS (vU s))||(!aIP s&& !decide (s=aXK)&& !decide (s=aJZ))))=xR s:=by unfold xR vV vU aIP;by_cases h:dL s 0<s.size;{have h1:s≠aXK:=(by rintro rfl;revert h;decide);have o:s≠aJZ:=(by rintro rfl;revert h;decide);simp[h,h1,o]};grind
def fid {α:Type} (p:α->Bool):List α->Nat->Int
 |[],_=>-1
 |x::l,k=>if p x=true then(k:Int)else fid p l (k+1)
theorem jI {α:Type} (p:α->Bool) (l:List α) (k:Nat) (h:k<l.length):fid p (l.drop k) k=if p l[k]=true then(k:Int)else fid p (l.drop (k+1)) (k+1):=by rw[List.drop_eq_getElem_cons h,fid]
theorem mL {α:Type} (p:α->Bool):∀ (l:List α) (k:Nat),decide (0<=fid p l k)=l.any p|[],k=>rfl|x::l,k=>by rw[fid,List.any_cons];cases h:p x with|true=>simp|false=>simpa using mL p l (k+1)
end Go.Al
