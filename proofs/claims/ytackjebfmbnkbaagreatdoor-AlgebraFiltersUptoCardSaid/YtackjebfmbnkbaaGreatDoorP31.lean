/- The document: the variables of expressions; places in lists; iP of plans. -/
import Derived.Test.YtackjebfmbnkbaaGreatDoorP19
import Derived.Test.YtackjebfmbnkbaaGreatDoorP08
import Derived.Test.YtackjebfmbnkbaaGreatDoorP21
import Derived.Test.YtackjebfmbnkbaaGreatDoorP29
import Derived.Test.YtackjebfmbnkbaaGreatDoorP30
import Derived.Test.YtackjebfmbnkbaaGreatDoorP22
set_option linter.unusedSimpArgs false
set_option linter.unusedVariables false
set_option linter.unusedSectionVars false
section
open Go Go.Aw Go.Proofs
open Tryz
namespace Go.Al
set_option maxRecDepth 100000
instance:FT prog f27:=.n
instance:FT prog f22:=.n
attribute [local simp] aP aV bG bK aR lL aZ zQ
theorem bSJ (l:List ByteArray) (s:ByteArray):(add l s).length<=l.length+1:=by unfold add;split;{omega};{simp}
def tupE (l:List ExprD):ExprD:=.mk 4 0 0 .empty (.mk 0 0 .empty []) l
theorem cIE (l:List ByteArray) (s:ByteArray) (L:l.length<=8388608):Con prog 27 [aR l,aE s] (aB (fid (fun w=>decide (w=s)) l 0)):=by
 refine Con.oc func27 fun C M O=>?_;refine aK ?_;refine .block<| .loopG (fun k:Nat=>{tm:=[(0,aR l),(1,aE s),(5,aB k)],hp:=[]}) (fun k=>k<=l.length/\fid (fun w=>decide (w=s)) l 0=fid (fun w=>decide (w=s)) (l.drop k) k) (fun k=>l.length-k) 0 ⟨by omega,by simp⟩ (by simp) (fun k hk=>?_);obtain⟨I,A⟩:=hk;refine aA ?_;refine .cnd (fun o=>?_) (fun D=>?_);{have o:k<l.length:=(by simpa using o);have G:=jI (fun w=>decide (w=s)) l k o;refine goX [] fun K J=>?_;simp[o];refine ck J ?_;refine .cnd (fun E=>?_) (fun E=>?_);{refine aA ?_;refine .re ?_;refine .clos ?_ rfl;rw[A,G,if_pos E];rfl};refine aA ?_;refine⟨k+1,⟨by omega,by rw[A,G,if_neg (by simp[E])]⟩,by omega,?_⟩;simp[aC k (by omega)]};have D:¬k<l.length:=by simpa using D
 refine .exit ?_;refine aA ?_;refine .re ?_;refine .clos ?_ rfl;rw[A,List.drop_eq_nil_of_le (by omega)];rfl
attribute [local simp] aM cA cCD
theorem cMS:∀ (n:Nat) (p:PlanD),bC p<n->bC p<=4194304->Con prog 22 [aM p] (aB (cS p)):=by intro n;induction n with|zero=>intro p h;omega|succ n G=>intro p M O;have I:=nB p;have hlen:=lT p.ins;have D:=bXU p;refine Con.oc func22 fun C S U=>?_;refine bQ ?_;refine .block<| .loopG (fun k:Nat=>{tm:=[(1,.ptr 1 0),(3,aB (eY (p.ins.take k))),(4,aB k)],hp:=[(1,cCD p)]}) (fun k=>k<=p.ins.length) (fun k=>p.ins.length-k) 0 (by omega) (by simp[eY]) (fun k hk=>?_);refine aA ?_;refine .cnd (fun o=>?_) (fun A=>?_);{have o:k<p.ins.length:=(by simpa using o);have hm:=jU (List.getElem_mem o);have W:=G p.ins[k] (by omega) (by omega);refine goX [{r:=aB (cS p.ins[k])}] fun K J=>?_;simp[o];refine ck J ?_;refine aA ?_;refine⟨k+1,by omega,by omega,?_⟩;have E:=bEC p.ins k o;generalize eY (List.take k p.ins)=a at E|-;simp[aC k (by omega),E];split<;>omega};have A:¬k<p.ins.length:=(by simpa using A);have L:=aFO p.ins;refine .exit ?_;refine aA ?_;refine .re ?_;refine .clos ?_ rfl;rw[List.take_of_length_le (by omega),D];simp[aC (eY p.ins) (by omega)]
theorem aVC (p:PlanD) (h:bC p<=4194304):Con prog 22 [aM p] (aB (cS p)):=cMS _ p (Nat.lt_succ_self _) h
end Go.Al
end
section
namespace Go.Al
open Go.Aw Go
structure Ord3 {α:Type} (S:α->Prop) (c:α->α->Int):Prop where
 anti:∀a b,S a->S b->c b a= -c a b
 trans:∀a b d,S a->S b->S d->c a b<=0->c b d<=0->c a d<=0/\(c a d=0->c a b=0/\c b d=0)
theorem aCS (a b:Int):dO b a= -dO a b:=by grind [dO]
theorem dT {a b:Int}:dO a b=0↔a=b:=by grind [dO]
theorem cLD {a b:Int}:dO a b<=0↔a<=b:=by grind [dO]
theorem cmpI_ord:Ord3 (fun _=>True) dO where
 anti a b _ _:=aCS a b
 trans a b d _ _ _ h1 o:=by
  grind [cLD,dT]
def jA (x y:Int):Int:=if x=0 then y else x
theorem Ord3.lex {α:Type} {S:α->Prop} {c d:α->α->Int} (D:Ord3 S c) (E:Ord3 S d):Ord3 S (fun a b=>jA (c a b) (d a b)) where
 anti a b o A:=by
  have h1:=D.anti a b o A
  have G:=E.anti a b o A
  grind [jA]
 trans a b e o A he h1 G:=by
  simp only[jA]at h1 G|-
  have I:=D.trans a b e o A he
  have J:=E.trans a b e o A he
  omega
theorem Ord3.on {α β:Type} {S:α->Prop} {c:α->α->Int} (h:Ord3 S c) {T:β->Prop} (f:β->α) (o:∀b,T b->S (f b)):Ord3 T (fun a b=>c (f a) (f b)):=
 ⟨fun a b A D=>h.anti _ _ (o a A) (o b D),fun a b d A D E=>h.trans _ _ _ (o a A) (o b D) (o d E)⟩
def kJ:List Int->List Int->Int
 |[],[]=>0
 |[],_::_=>-1
 |_::_,[]=>1
 |a::l,b::m=>jA (dO a b) (kJ l m)
theorem aYU:∀l m,kJ m l= -kJ l m|[],[]=>rfl|[],_::_=>rfl|_::_,[]=>rfl|a::l,b::m=>by have:=aCS a b;have:=aYU l m;grind [kJ,jA]
theorem aSM:∀l m n,kJ l m<=0->kJ m n<=0->kJ l n<=0/\(kJ l n=0->kJ l m=0/\kJ m n=0)
 |[],[],[],_,_=>by omega
 |[],[],_::_,_,_=>by simp[kJ]
 |[],_::_,[],_,h=>by grind [kJ]
 |[],_::_,_::_,_,_=>by simp[kJ]
 |_::_,[],_,h,_=>by grind [kJ]
 |_::_,_::_,[],_,h=>by grind [kJ]
 |a::l,b::m,e::n,h1,o=>by have A:=aSM l m n;simp only[kJ,jA]at h1 o|-;have k:=cmpI_ord.trans a b e trivial trivial trivial;omega
theorem aLA:∀l m,kJ l m=0↔l=m
 |[],[]=>by simp[kJ]
 |[],_::_=>by simp[kJ]
 |_::_,[]=>by simp[kJ]
 |a::l,b::m=>by have:=aLA l m;grind [dT,kJ,jA,List.cons.injEq,absurd]
theorem bIE:∀l m:List UInt8,(Op.bytesLess l m=true↔kJ (l.map fun b=>(b.toNat:Int)) (m.map fun b=>(b.toNat:Int))= -1)/\(kJ (l.map fun b=>(b.toNat:Int)) (m.map fun b=>(b.toNat:Int))= -1\/kJ (l.map fun b=>(b.toNat:Int)) (m.map fun b=>(b.toNat:Int))=0\/kJ (l.map fun b=>(b.toNat:Int)) (m.map fun b=>(b.toNat:Int))=1)
 |[],[]=>by simp[Op.bytesLess,kJ]
 |[],_::_=>by simp[Op.bytesLess,kJ]
 |_::_,[]=>by simp[Op.bytesLess,kJ]
 |a::l,b::m=>by have o:=bIE l m;simp only[Op.bytesLess,List.map_cons,kJ,jA,dO,Bool.or_eq_true,Bool.and_eq_true,decide_eq_true_eq,beq_iff_eq];generalize kJ (l.map fun b=>(b.toNat:Int)) (m.map fun b=>(b.toNat:Int))=r at*;rw[UInt8.lt_iff_toNat_lt];have he:a=b↔a.toNat=b.toNat:=UInt8.toNat_inj.symm;grind
theorem tX (s t:ByteArray):kU s t=kJ (byL s) (byL t):=by have h:=bIE (bl s) (bl t);have e1:s.toList=bl s:=Lib.toList_data s;have o:t.toList=bl t:=Lib.toList_data t;have A:=aLA (byL s) (byL t);unfold kU ltB;rw[e1,o];have f1:(bl s).map (fun b=>(b.toNat:Int))=byL s:=rfl;have f2:(bl t).map (fun b=>(b.toNat:Int))=byL t:=rfl;rw[f1,f2]at h;cases D:Op.bytesLess (bl s) (bl t)with|true=>simp_all|false=>grind [kJ,byL,bl,vZ,aIV]
theorem cmpS_ord:Ord3 (fun _=>True) kU:=by have:Ord3 (fun _=>True) (fun s t=>kJ (byL s) (byL t)):=⟨fun a b _ _=>aYU _ _,fun a b d _ _ _=>aSM _ _ _⟩;exact⟨fun a b o A=>by rw[tX,tX];exact this.anti a b o A,fun a b d o A D=>by rw[tX,tX,tX];exact this.trans a b d o A D⟩
theorem mN {s t:ByteArray}:kU s t=0↔s=t:=by grind [tX,aLA,aIV]
def aVZ (a b:ByteArray):Int:=jA (dO a.size b.size) (kU a b)
theorem cQX (x y:Int):orI [x,y]=jA x y:=by grind [orI,jA]
theorem orI3 (x y z:Int):orI [x,y,z]=jA x (jA y z):=by grind [orI,jA]
theorem magC_ord:Ord3 (fun _=>True) aVZ:=(cmpI_ord.on (T:=fun _=>True) (fun s:ByteArray=>(s.size:Int)) (fun _ _=>trivial)).lex cmpS_ord
theorem aYS {s t:ByteArray}:aVZ s t=0↔s=t:=by grind [aVZ,jA,mN,absurd,dT]
theorem aHS (s:ByteArray):lV s=true↔0<s.size/\chr s 0=45:=by grind [aCD,lV,tMinus]
theorem zD {s:ByteArray} (h:fJ s=true) (o:lV s=true):1<s.size/\lV (s.extract 1 s.size)=false:=by
 rw[aHS]at o;have A:1<s.size:=by by_cases h1:1<s.size;{exact h1};{exfalso;unfold fJ at h;simp only[h1,decide_false,Bool.false_and,Bool.false_eq_true,if_false]at h;simp_all [aES,Bool.and_eq_true,iD,nI]}
 refine⟨A,?_⟩;cases D:lV (s.extract 1 s.size)with|false=>rfl|true=>exfalso;rw[aHS]at D;unfold fJ at h;simp only[A,decide_true,Bool.true_and,o.2,decide_true]at h;simp_all [aES,Bool.and_eq_true,iD,nI]
theorem cLH (n:Nat) (s t:ByteArray) (A:fJ s=true) (D:fJ t=true):aOV (n+2) s t=if lV s=true then(if lV t=true then aVZ (t.extract 1 t.size) (s.extract 1 s.size)else-1)else if lV t=true then 1 else aVZ s t:=by rw[aOV];by_cases h1:lV s=true;{by_cases o:lV t=true;{have a:=(zD A h1).2;have b:=(zD D o).2;simp only[h1,o,Bool.and_self,if_true];rw[aOV];simp only[a,b,Bool.and_self,Bool.false_eq_true,if_false];rw[cQX];rfl};{simp[h1,o]}};{by_cases o:lV t=true;{simp[*]};{simp only[h1,o,Bool.and_self,Bool.false_eq_true,if_false];rw[cQX];rfl}}
def aLZ (s t:ByteArray):Int:=if lV s=true then(if lV t=true then aVZ (t.extract 1 t.size) (s.extract 1 s.size)else-1)else if lV t=true then 1 else aVZ s t
theorem bigO_ord:Ord3 (fun _=>True) aLZ where
 anti a b _ _:=by
  have h1:=magC_ord.anti a b trivial trivial
  have o:=magC_ord.anti (b.extract 1 b.size) (a.extract 1 a.size) trivial trivial
  grind [aLZ]
 trans a b d _ _ _:=by
  have h1:=magC_ord.trans a b d trivial trivial trivial
  have o:=magC_ord.trans (d.extract 1 d.size) (b.extract 1 b.size) (a.extract 1 a.size) trivial trivial trivial
  unfold aLZ
  grind
theorem bYN {s t:ByteArray} (h:aLZ s t=0):s=t:=by grind [aLZ,aHS,bHU,aYS]
theorem bYO (s:ByteArray):aLZ s s=0:=by grind [aLZ,aYS]
theorem cGR {s t:ByteArray} (o:fJ s=true) (A:fJ t=true):aOV (s.size+1) s t=aLZ s t:=by have:=kO o;rw[show s.size+1=(s.size-1)+2 by omega,cLH _ s t o A];rfl
theorem bAU {v w:ValD} (A:gW v=true) (D:gW w=true):rN v w=jA (dO v.kind w.kind) (if v.kind=3 then aLZ v.s w.s else if v.kind=4 then kU v.s w.s else jA (dO v.n w.n) (jA (kU v.s w.s) (fE v.l w.l))):=by rw[bSB,orI3];unfold jA;by_cases h:dO v.kind w.kind=0;{rw[if_neg (by simp[h]),if_pos h];by_cases o:v.kind=3;{have hw:w.kind=3:=(by rw[<-dT.1 h];exact o);rw[if_pos o,if_pos o,cGR (aBD A o) (aBD D hw)]};{rw[if_neg o,if_neg o]}};omega
theorem zC {k n o A:Int} {s s':ByteArray} {l D:List ValD} (E:gW ⟨k,n,s,l⟩=true) (G:gW ⟨o,A,s',D⟩=true):rN ⟨k,n,s,l⟩ ⟨o,A,s',D⟩=jA (dO k o) (if k=3 then aLZ s s' else if k=4 then kU s s' else jA (dO n A) (jA (kU s s') (fE l D))):=bAU E G
mutual
theorem bAV:∀v w:ValD,gW v=true->gW w=true->rN w v= -rN v w| .mk k n s l,.mk D I s' J,o,A=>by have M:=aFT l J (fT o).1 (fT A).1;rw[zC o A,zC A o];have O:=aCS k D;by_cases e:dO k D=0;{have K:=dT.1 e;subst K;have h1:=bigO_ord.anti s s' trivial trivial;have L:=cmpS_ord.anti s s' trivial trivial;have S:=aCS n I;simp only[jA,e];by_cases E:k=3;{simp[E,h1]};{by_cases G:k=4;{simp[G,L]};{simp only[E,G,if_false,if_true];split<;>split<;>(try split)<;>(try split)<;>omega}}};simp_all [jA,if_neg]
theorem aFT:∀l m:List ValD,gB l=true->gB m=true->fE m l= -fE l m|[],[],_,_=>rfl|[],_::_,_,_=>rfl|_::_,[],_,_=>rfl|v::l,w::m,h1,o=>by simp only[gB,Bool.and_eq_true]at h1 o;have a:=bAV v w h1.1 o.1;have b:=aFT l m h1.2 o.2;grind [fE]
end
mutual
theorem aLT:∀v w:ValD,gW v=true->gW w=true->rN v w=0->v=w| .mk k n s l,.mk L W s' M,D,K,h=>by have o:=fT D;have A:=fT K;have O:=sQ D;have S:=aFR l M o.1 A.1;rw[zC D K]at h;simp only[ValD.kind,ValD.n,ValD.s,ValD.l]at o A O;unfold jA at h;by_cases e:dO k L=0;{rw[if_pos e]at h;have U:=dT.1 e;subst U;by_cases E:k=3;{rw[if_pos E]at h;subst E;simp at o A;rw[bYN h,o.2.1,o.2.2.1,A.2.1,A.2.2.1]};{rw[if_neg E]at h;by_cases G:k=4;{rw[if_pos G]at h;subst G;simp at o A;rw[mN.1 h,o.2.1,o.2.2,A.2.1,A.2.2]};{rw[if_neg G]at h;split at h;{rename_i I;split at h;{rename_i J;rw[dT.1 I,mN.1 J,S h]};{rename_i J;exact absurd h J}};{rename_i I;exact absurd h I}}}};simp_all
theorem aFR:∀l m:List ValD,gB l=true->gB m=true->fE l m=0->l=m
 |[],[],_,_,_=>rfl
 |[],_::_,_,_,h=>by grind [fE]
 |_::_,[],_,_,h=>by grind [fE]
 |v::l,w::m,h1,o,h=>by simp only[gB,Bool.and_eq_true]at h1 o;simp only[fE]at h;split at h;{rename_i e;rw[aLT v w h1.1 o.1 e,aFR l m h1.2 o.2 h]};omega
end
mutual
theorem bYC:∀v:ValD,gW v=true->rN v v=0| .mk k n s l,o=>by have A:=aFS l (fT o).1;rw[zC o o];have h1:∀a:Int,dO a a=0:=fun a=>dT.2 rfl;grind [kU,mN,bYO,jA]
theorem aFS:∀l:List ValD,gB l=true->fE l l=0|[],_=>rfl|v::l,h=>by simp only[gB,Bool.and_eq_true]at h;simp only[fE,bYC v h.1,aFS l h.2,if_true]
end
mutual
theorem bOG:∀a b d:ValD,gW a=true->gW b=true->gW d=true->rN a b<=0->rN b d<=0->rN a d<=0| .mk k n s l,.mk K A s' W,.mk L D s2 Y,G,I,fd,h1,o=>by have Z:=aBN l W Y (fT G).1 (fT I).1 (fT fd).1;rw[zC G I]at h1;rw[zC I fd]at o;rw[zC G fd];simp only[jA]at h1 o|-;have kk:=cmpI_ord.trans k K L trivial trivial trivial;by_cases x:dO k K=0;{have x':=dT.1 x;subst x';rw[if_pos x]at h1;by_cases y:dO k L=0;{have y':=dT.1 y;subst y';rw[if_pos y]at o;rw[if_pos y];by_cases M:k=3;{rw[if_pos M]at h1 o|-;exact(bigO_ord.trans s s' s2 trivial trivial trivial h1 o).1};{rw[if_neg M]at h1 o|-;by_cases O:k=4;{rw[if_pos O]at h1 o|-;exact(cmpS_ord.trans s s' s2 trivial trivial trivial h1 o).1};{rw[if_neg O]at h1 o|-;have t1:=cmpI_ord.trans n A D trivial trivial trivial;have t2:=cmpS_ord.trans s s' s2 trivial trivial trivial;have z1:dO n A=0↔n=A:=dT;have z2:dO A D=0↔A=D:=dT;have z3:dO n D=0↔n=D:=dT;have y1:kU s s'=0↔s=s':=mN;have y2:kU s' s2=0↔s'=s2:=mN;have y3:kU s s2=0↔s=s2:=mN;by_cases E:dO n A=0;{have:=z1.1 E;subst this;rw[if_pos E]at h1;by_cases S:dO n D=0;{rw[if_pos S]at o|-;by_cases s1:kU s s'=0;{have:=y1.1 s1;subst this;rw[if_pos s1]at h1;by_cases U:kU s s2=0;{rw[if_pos U]at o|-;exact Z h1 o};{rw[if_neg U]at o|-;exact o}};{rw[if_neg s1]at h1;have J:kU s' s2<=0:=(by split at o<;>omega);have t:=t2 h1 J;rw[if_neg (fun z=>s1 (t.2 z).1)];exact t.1}};{rw[if_neg S]at o|-;exact o}};{rw[if_neg E]at h1;have J:dO A D<=0:=(by split at o<;>omega);have t:=t1 h1 J;rw[if_neg (fun z=>E (t.2 z).1)];exact t.1}}}};{rw[if_neg y]at o|-;exact o}};omega
theorem aBN:∀a b d:List ValD,gB a=true->gB b=true->gB d=true->fE a b<=0->fE b d<=0->fE a d<=0
 |[],_,[],_,_,_,_,_=>by simp[fE]
 |[],_,_::_,_,_,_,_,_=>by simp[fE]
 |_::_,[],_,_,_,_,h,_=>by grind [fE]
 |_::_,_::_,[],_,_,_,_,h=>by assumption
 |a::l,b::m,d::n,f1,f2,f3,h1,o=>by simp only[gB,Bool.and_eq_true]at f1 f2 f3;simp only[fE]at h1 o|-;have t:=bOG a b d f1.1 f2.1 f3.1;have D:=aBN l m n f1.2 f2.2 f3.2;by_cases x:rN a b=0;{have:=aLT a b f1.1 f2.1 x;grind};{rw[if_neg x]at h1;have A:rN b d<=0:=(by split at o<;>omega);have t:=t h1 A;by_cases y:rN a d=0;{exfalso;have:=aLT a d f1.1 f3.1 y;subst this;have E:=bAV a b f1.1 f2.1;omega};omega}
end
def cD (l:List ValD):Prop:=∀v∈l,cF v=0
theorem uX {l:List ValD}:cD l↔gG l=true:=by simp[cD,gG,List.all_eq_true]
theorem iH:∀ {l:List ValD},cD l->gB l=true|[],_=>rfl|v::l,h=>by simp only[gB,Bool.and_eq_true];exact⟨gY (h v (by simp)),iH fun w hw=>h w (by grind)⟩
theorem pQ {a b:List ValD} (o:cD a) (A:cD b):cO a b=fE a b:=by simp_all [cO,uX]
theorem mO {a b:List ValD} (o:cD a) (A:cD b):cO b a= -cO a b:=by grind [pQ,aFT,iH]
theorem kL {a b:List ValD} (o:cD a) (A:cD b):cO a b=0↔a=b:=by rw[pQ o A];exact⟨aFR _ _ (iH o) (iH A),fun e=>by simp_all [aFS,iH]⟩
theorem vX {a b d:List ValD} (o:cD a) (A:cD b) (D:cD d) (h1:cO a b<=0) (E:cO b d<=0):cO a d<=0:=by rw[pQ o A]at h1;rw[pQ A D]at E;rw[pQ o D];exact aBN _ _ _ (iH o) (iH A) (iH D) h1 E
theorem bAT {a b:ValD} (A:cF a=0) (D:cF b=0):oQ a b=0↔a=b:=by unfold oQ;rw[kL (fun v o=>by simp_all) (fun v o=>by simp_all)];simp
def Asc:List (List ValD)->Prop
 |[]=>True
 |a::l=>(∀b∈l,cO a b<0)/\Asc l
theorem Asc.unique:∀ {l m:List (List ValD)},(∀r∈l,cD r)->(∀r∈m,cD r)->Asc l->Asc m->(∀r,r∈l↔r∈m)->l=m
 |[],[],_,_,_,_,_=>rfl
 |[],b::m,_,_,_,_,h=>by have:=(h b).2 (by simp);grind
 |a::l,[],_,_,_,_,h=>by have:=(h a).1 (by simp);grind
 |a::l,b::m,g1,g2,h1,A,h=>by have D:=g1 a (by simp);have I:=g2 b (by simp);have e:a=b:=(by rcases List.mem_cons.1 ((h a).1 (by simp))with e|e;{exact e};{rcases List.mem_cons.1 ((h b).2 (by simp))with E|E;{exact E.symm};{have x:=A.1 a e;have y:=h1.1 b E;rw[mO D I]at x;omega}});subst e;have G:∀ {k:List (List ValD)},(∀b∈k,cO a b<0)->a∉k:=fun hk hm=>(by have:=hk a hm;rw[(kL D D).2 rfl]at this;omega);congr 1;refine Asc.unique (fun r o=>g1 r (by simp[o])) (fun r o=>g2 r (by simp[o])) h1.2 A.2 fun r=>?_;constructor;{intro o;rcases List.mem_cons.1 ((h r).1 (by simp[o]))with e|e;{subst e;exact absurd o (G h1.1)};{exact e}};{intro o;rcases List.mem_cons.1 ((h r).2 (by simp[o]))with e|e;{subst e;exact absurd o (G A.1)};{exact e}}
end Go.Al
end
section
open Go Go.Aw Go.Proofs
open Tryz
namespace Go.Al
set_option maxRecDepth 100000
set_option maxRecDepth 20000
instance:FT prog f225:=.n
attribute [local simp] aT jV
theorem aUL (a b:nJ) (K:a.parts.length<=1048576) (L:b.parts.length<=1048576):Con prog 225 [jV a,jV b] (jV (qN a b)):=by
 have h1:=cJD a.parts b.parts (by omega) (by omega);have G:=bGL a.parts b.parts (by omega);have I:=aRZ a.parts b.parts (by omega) (by omega);have J:=aRZ b.parts a.parts (by omega) (by omega);obtain⟨A,ap⟩:=a;obtain⟨D,o⟩:=b;simp only at h1 G I J;refine Con.oc func225 fun C M O=>?_;refine aK ?_;refine .cnd (fun c1=>?_) (fun c1=>?_);{have c1:A=D:=(by simpa using c1);have E:qN ⟨A,ap⟩ ⟨D,o⟩=⟨A,aNA ap o⟩:=(by unfold qN;rw[if_pos c1]);rw[E];refine goE [{r:=aT (aNA ap o)}] ?_;exact rtC};have c1:¬A=D:=by simpa using c1
 refine goC [{r:=aB (pC ap o)}] ?_;refine .cnd (fun c2=>?_) (fun c2=>?_);{have c2:0<=pC ap o:=(by simpa using c2);have E:qN ⟨A,ap⟩ ⟨D,o⟩=⟨A,pF ap o⟩:=(by unfold qN;rw[if_neg c1,if_pos c2]);rw[E];refine goE [{r:=aT (pF ap o)}] ?_;exact rtC};have c2:¬0<=pC ap o:=by simp at c2;omega
 have E:qN ⟨A,ap⟩ ⟨D,o⟩=⟨D,pF o ap⟩:=by unfold qN;rw[if_neg c1,if_neg c2]
 rw[E];refine goE [{r:=aT (pF o ap)}] ?_;exact rtC
end Go.Al
end
section
open Go Go.Aw Go.Proofs
open Tryz
namespace Go.Al
set_option maxRecDepth 100000
set_option maxRecDepth 20000
instance:FT prog f291:=.n
instance:FT prog f224:=.n
theorem Ext.below {w w':World} (h:Go.RowKit.Below w.heap.size w w'):Ext w w':=⟨h.os,h.tape,⟨h.output,fun d=>(show False from d).elim⟩,h.size,h.block⟩
theorem rep0 (c:Nat):Lib.repeatL [48] c=List.replicate c 48:=by induction c with|zero=>rfl|succ c o=>rw[Lib.repeatL,o];rfl
def aJR (c:Nat):ByteArray:=⟨(List.replicate c (48:UInt8)).toArray⟩
theorem bYZ (c:Nat) (o:c<=9):Con prog 289 [aE ⟨#[48]⟩,aB c] (aE (aJR c)):=
 Con.libG [.string ⟨#[48]⟩,.int .i64 c] _ ⟨_,func289,by kernel_rfl,rfl⟩ fun fz w A D=>by
  refine(Tryz.strings_Repeat ⟨#[48]⟩ c w (by omega) (by show 1*c<=_;omega)).mono ?_
  rintro e w' ⟨rfl,hw⟩
  refine⟨?_,Ext.below hw⟩
  rw[show(⟨#[48]⟩:ByteArray).data.toList=[48]from rfl,rep0];rfl
attribute [local simp] HB bB aT jV
theorem cQC (T:Nat) (u:Bool) (l:List UInt8):ConM prog 291 (HB T u l) [.ptr 1000 0] (aB l.length) (HB T u l):=by refine ConM.of_code func291 (by kernel_rfl) rfl (by simp[ntmps291]) (by simp[ntmps291]) (eW rfl) (eP rfl) rfl (fun C A o=>?_);refine aK ?_;refine .ret ⟨.inr rfl,⟨_,by simp[results291]<;>rfl,?_⟩,?_⟩;{exact .refl};{simp}
theorem aAS:∀ (k u:Nat),u<10 ^ (k+1)->Lib.nDigits u<=k+1
 |0,u,h=>by rw[Lib.nDigits_small (by simpa using h)];omega
 |k+1,u,h=>by rw[Nat.pow_succ]at h;by_cases hu:u<10;{rw[Lib.nDigits_small hu];omega};{rw[Lib.nDigits_big hu];have:=aAS k (u/10) (by omega);omega}
theorem bIL {n:Int} (o:0<=n) (h1:n<1000000000):(Lib.itoa n).length<=9:=by obtain⟨u,rfl⟩:∃u:Nat,n=u:=⟨n.toNat,by omega⟩;rw[Lib.itoa_nonneg,Lib.decDigits_length];exact aAS 8 u (by omega)
theorem cEF {n:Int} (o:0<=n):0<(Lib.itoa n).length:=by obtain⟨u,rfl⟩:∃u:Nat,n=u:=⟨n.toNat,by omega⟩;rw[Lib.itoa_nonneg,Lib.decDigits_length];exact Lib.nDigits_pos u
theorem vK {p:List Int} (A:eZ p) (i:Nat):0<(pE p i).length/\(pE p i).length<=9:=by have o:=jZ A i;have h1:=bIL o.1 o.2;have D:=cEF o.1;unfold pE;split;{simp only[List.length_append,List.length_replicate];omega};{omega}
theorem aJX {p:List Int} (o:eZ p):∀k,k<=(mR p k).length/\(mR p k).length<=9*k
 |0=>by simp[mR]
 |k+1=>by have:=aJX o k;have:=vK o (p.length-1-k);simp only[mR,List.length_append];omega
@[simp] theorem cOA (a:Nat) (u:Bool):within [a,1000] (pA u)=true:=by cases u<;>simp[pA,within]
@[simp] theorem cNZ (a c:Nat) (u:Bool):within [a,1000,c] (pA u)=true:=by cases u<;>simp[pA,within]
def pieceS (p:List Int) (i:Nat):ByteArray:=⟨(pE p i).toArray⟩
theorem oH (x:nJ) (S:x.parts.length<=1048576) (W:eZ x.parts):Con prog 224 [jV x] (.tup [aE (fP x).1,aB (fP x).2]):=by
 obtain⟨E,p⟩:=x;simp only at S W;have hB:=aBS p;have hI:=aMB p (by omega);refine Con.oR func224 fun C hC hD J=>?_;refine aK ?_;refine .cnd (fun c1=>?_) (fun c1=>?_);{have c1:p=[]:=(by simpa using c1);have hr:fP ⟨E,p⟩=(⟨#[48]⟩,0):=(by unfold fP;rw[if_pos c1]);rw[hr];refine aA ?_;(repeat refine .seq ?_);refine .ret ⟨.inr rfl,⟨_,by simp[results224]<;>rfl,?_⟩,rfl,trivial,trivial⟩;exact .refl};have c1:¬p=[]:=by simpa using c1
 have hp:0<p.length:=List.length_pos_iff.2 c1;refine aA ?_;refine AWpR.ofM (AWpM.seq2 ?_);refine AWpM.sq ?_;refine .ren0 J 1 1001 ?_;refine .ren0 J 4 1000 ?_;refine .forget (s':={tm:=[(1,.ptr 1001 0),(4,.ptr 1000 0)],hp:=[(1001,.cells 259 [aD E,aT p]),(1000,bB 302 false [])]}) (by simp[xL,pA]) ?_;refine goC [{r:=.clo (.func 356) [uC p]}] ?_;refine AWpM.block ?_;refine AWpM.rg0 hC hD J (xN p) hI [1001,1000] (fun k=>[(1001,.cells 259 [aD E,aT p]),(1000,bB 302 (decide (0<k)) (mR p k))]) ?_ ?_ ?_ ?_;{intro k q hq;simp at hq;rcases hq with rfl|rfl<;>simp[within]};{intro x S;simp[xN]at S;obtain⟨k,_,rfl⟩:=S;rfl}
 ·intro C l O O' k x hC hk S;obtain⟨av,rfl⟩:=aJA S;have hg:=jZ W (p.length-1-k);have aw:=bIL hg.1 hg.2;have I:pE p (p.length-1-k)=if p.length-1-k+1<p.length then List.replicate (9-(Lib.itoa (p.getD (p.length-1-k) 0)).length) 48++Lib.itoa (p.getD (p.length-1-k) 0)else Lib.itoa (p.getD (p.length-1-k) 0):=rfl
  have L:=aJX W k;have ax:=vK W (p.length-1-k);have ay:=zF (p.getD (p.length-1-k) 0) (by omega) (by omega);have Z:mR p (k+1)=mR p k++pE p (p.length-1-k):=rfl;rw[Z];refine .forget (s':={tm:=[(1,.ptr 1001 0),(4,.ptr 1000 0),(15,aB ((p.length-1-k:Nat):Int)),(16,aB (p.getD (p.length-1-k) 0))],hp:=[(1001,.cells 259 [aD E,aT p]),(1000,bB 302 (decide (0<k)) (mR p k)),(1999,.hid l O)]}) (by simp[mZ,pI,jK]) ?_;generalize p.getD (p.length-1-k) 0=n at*;generalize mR p k=cur at*;generalize az:pE p (p.length-1-k)=U at*;refine aK ?_;refine⟨rfl,rfl,?_⟩;refine .forget (s':={tm:=[(1,.ptr 1001 0),(4,.ptr 1000 0),(5,aB ((p.length-1-k:Nat):Int)),(6,aB n)],hp:=[(1001,.cells 259 [aD E,aT p]),(1000,bB 302 (decide (0<k)) cur),(1999,.hid l O')]}) (by simp) ?_;have hW:=kA 302 (.inl rfl) (decide (0<k)) cur ⟨U.toArray⟩ (by rw[<-dQ,bJV];omega);rw[bJV]at hW;refine goC [{r:=aE ⟨(Lib.itoa n).toArray⟩}] ?_;refine .seqJ (fun _:Unit=>{tm:=[(4,.ptr 1000 0),(7,aE ⟨U.toArray⟩)],hp:=[(1001,.cells 259 [aD E,aT p]),(1000,bB 302 (decide (0<k)) cur),(1999,.hid l O')]}) (fun _=>True) ?_ (fun hJ=>?_);{rintro- -;refine goX [{r:=.tup [aB U.length,.val .nilIface],us:=[1000],bs:=HB 302 true (cur++U)}] fun K o=>?_;simp;(repeat first|refine ob ?_ |refine⟨by intros;exact dS hW (.cons .refl (.cons .refl .nil)) rfl rfl,?_⟩);refine o _ ?_;exact⟨rfl,by simp⟩};{have M:IntKind.i64.wrap ((p.length:Int)-1)=(p.length:Int)-1:=bH (by omega) (by omega);have aa:IntKind.i64.wrap (9-((Lib.itoa n).length:Int))=((9-(Lib.itoa n).length:Nat):Int):=(by rw[bH (by omega) (by omega)];omega);have ab:(⟨(Lib.itoa n).toArray⟩:ByteArray).size=(Lib.itoa n).length:=(by rw[<-dQ,bJV]);refine goX [] fun K o=>?_;simp[M];refine o _ ?_;refine .cnd (fun c2=>?_) (fun c2=>?_);{have c2:p.length-1-k+1<p.length:=(by simp[M]at c2;omega);rw[if_pos c2]at I;have hR:=bYZ (9-(Lib.itoa n).length) (by omega);have A:aJR (9-(Lib.itoa n).length)++⟨(Lib.itoa n).toArray⟩=(⟨U.toArray⟩:ByteArray):=(by rw[I];refine vZ ?_;simp[aJR,bl]);have ac:(aJR (9-(Lib.itoa n).length)).size=9-(Lib.itoa n).length:=(by rw[<-dQ];simp[aJR,bl]);refine goX [{r:=aE (aJR (9-(Lib.itoa n).length))}] fun K o=>?_;simp[ab,aa,ac];refine ck o ?_;exact hJ _ () trivial (by simp[A])};have c2:¬p.length-1-k+1<p.length:=(by simp[M]at c2;omega);rw[if_neg c2]at I;have A:U=Lib.itoa n:=I;refine .skip ?_;exact hJ _ () trivial (by simp[A])}
 ·intro D l O;have L:=aJX W p.length;have ad:=cQC 302 true (oI p);have Y:=aMF 302 (.ptr 1000 0) rfl (oI p) (by intro e;unfold oI at e;have h1:=L.1;rw[e,List.length_nil]at h1;omega);have ae:decide (0<p.length)=true:=(by simpa using hp);refine .forget (s':={tm:=[(1,.ptr 1001 0),(4,.ptr 1000 0)],hp:=[(1001,.cells 259 [aD E,aT p]),(1000,bB 302 true (oI p)),(1998,dB D)]}) (by simp[ae,oI]) ?_;have af:fP ⟨E,p⟩=if 200<(oI p).length then(⟨#[]⟩,80)else if E=true then(⟨(45::oI p).toArray⟩,0)else(⟨(oI p).toArray⟩,0):=by unfold fP;rw[if_neg c1]
  have ap:(oI p).length<=9*p.length:=L.2;rw[af];generalize oI p=G at*;refine goX [{r:=aB G.length,us:=[1000],bs:=HB 302 true G}] fun K o=>?_;simp;(repeat first|refine ob ?_ |refine⟨by intros;exact dS ad (.cons .refl .nil) rfl rfl,?_⟩);refine o _ ?_;refine .cnd (fun c3=>?_) (fun c3=>?_);{have c3:200<G.length:=(by simp at c3;omega);rw[if_pos c3];refine aA ?_;(repeat refine .seq ?_);refine .ret ⟨by rfl,.inr rfl,⟨_,by simp[results224]<;>rfl,?_⟩,rfl,trivial,trivial⟩;exact .refl};have c3:¬200<G.length:=(by simp at c3;omega);rw[if_neg c3];refine aA ?_;refine .cnd (fun c4=>?_) (fun c4=>?_);{rw[if_pos c4];have ag:(⟨#[45]⟩:ByteArray)++⟨G.toArray⟩=⟨(45::G).toArray⟩:=(by refine vZ ?_;simp[bl]);have ah:(⟨#[45]⟩:ByteArray).size=1:=rfl;have ai:(⟨G.toArray⟩:ByteArray).size=G.length:=(by rw[<-dQ,bJV]);refine goX [{r:=aE ⟨G.toArray⟩,us:=[1000],bs:=[(1000,.cells 302 [.ptr 1000 0,.unk])]}] fun K o=>?_;simp[ai,ah];(repeat first|refine ob ?_ |refine⟨by intros;exact iR Y (.cons .refl .nil) rfl rfl (by simp) (by simp) (by simp),?_⟩);refine o _ ?_;(repeat refine .seq ?_);refine .ret ⟨by rfl,.inr rfl,⟨_,by simp[results224]<;>rfl,?_⟩,rfl,trivial,trivial⟩;simp only[ag];exact .refl};have c4:¬E=true:=(by rw[c4];simp);rw[if_neg c4];refine goX [{r:=aE ⟨G.toArray⟩,us:=[1000],bs:=[(1000,.cells 302 [.ptr 1000 0,.unk])]}] fun K o=>?_;simp;(repeat first|refine ob ?_ |refine⟨by intros;exact iR Y (.cons .refl .nil) rfl rfl (by simp) (by simp) (by simp),?_⟩);refine o _ ?_;(repeat refine .seq ?_);refine .ret ⟨by rfl,.inr rfl,⟨_,by simp[results224]<;>rfl,?_⟩,rfl,trivial,trivial⟩;exact .refl
end Go.Al
end
section
open Go Go.Aw Go.Proofs
open Tryz
namespace Go.Al
set_option maxRecDepth 100000
set_option maxRecDepth 20000
instance:FT prog f297:=.n
instance:FT prog f155:=.n
instance:FT prog f157:=.n
instance:FT prog f181:=.n
attribute [local simp] aT jV
theorem gE {s:ByteArray} (h:cX s=0):eZ (ofB s).parts/\(ofB s).parts.length<=200:=by
 refine⟨cCR (tY h),?_⟩;have h1:=pZ (gV (fG s) (fG s).size (fG s).size);have o:=aRN (fG s) (fG s).size (fG s).size;have A:(fG s).size<=200:=by unfold cX at h;split at h;{cases h};{split at h;{split at h;{cases h};{omega}};{cases h}}
 show(dH _).length<=200;omega
theorem mD (a b:ByteArray) (f:nJ->nJ->ByteArray×Int):(¬ (jJ a b).2.2=0/\un2 f a b=(⟨#[]⟩,(jJ a b).2.2))\/((jJ a b).2.2=0/\(jJ a b).1=ofB a/\(jJ a b).2.1=ofB b/\un2 f a b=f (ofB a) (ofB b)/\cX a=0/\cX b=0):=by unfold jJ un2;by_cases h1:cX a=0;{by_cases o:cX b=0;{right;simp[h1,o]};{left;simp[h1,o]}};{left;simp[h1]}
theorem aDF (x:nJ):Con prog 226 [jV x] (jV (oG x)):=bTO x
theorem cPY (a:ByteArray) (D:a.size<=4194304):Con prog 297 [aE a] (.tup [aE (qH a).1,aB (qH a).2]):=by
 have h1:=vA a (by omega);refine Con.oc func297 fun C E G=>?_;refine aA ?_;refine goC [{r:=aB (cX a)}] ?_;refine aA ?_;refine .cnd (fun c1=>?_) (fun c1=>?_);{have c1:¬cX a=0:=(by simpa using c1);have o:qH a=(⟨#[]⟩,cX a):=(by unfold qH;rw[if_neg c1]);rw[o];refine aA ?_;exact rtC};have c1:cX a=0:=by simpa using c1
 have o:qH a=fP (oG (ofB a)):=by unfold qH;rw[if_pos c1]
 have A:=gE c1;have I:=cCP a (by omega) (tY c1);have J:=aDF (ofB a);have K:=oH (oG (ofB a)) (by show(ofB a).parts.length<=_;omega) A.1;rw[o];generalize fP (oG (ofB a))=t at*;refine goC [{r:=jV (ofB a)},{r:=jV (oG (ofB a))},{r:=.tup [aE t.1,aB t.2]}] ?_;exact rtC
theorem bPU (a b:ByteArray) (G:a.size<=4194304) (I:b.size<=4194304):Con prog 155 [aE a,aE b] (.tup [aE (uD a b).1,aB (uD a b).2]):=by have h1:=aPJ a b (by omega) (by omega);have o:=mD a b fun x y=>fP (qN x y);rw[show un2 (fun x y=>fP (qN x y)) a b=uD a b from rfl]at o;generalize J:(jJ a b).1=x at*;generalize K:(jJ a b).2.1=y at*;generalize he:(jJ a b).2.2=e at*;refine Con.oc func155 fun C L M=>?_;refine aA ?_;refine goC [{r:=.tup [jV x,jV y,aB e]}] ?_;refine aA ?_;rcases o with⟨o,A⟩|⟨o,rfl,rfl,A,D,E⟩;{refine .cnd (fun c1=>?_) (fun c1=>?_);{rw[A];refine aA ?_;exact rtC};exact absurd (by simpa using c1) o};{refine .cnd (fun c1=>?_) (fun c1=>?_);{exact absurd o (by simpa using c1)};have f1:=gE D;have f2:=gE E;have O:=bKC (ofB a) (ofB b);have S:=aUL (ofB a) (ofB b) (by omega) (by omega);have U:=oH (qN (ofB a) (ofB b)) (by omega) (aCW f1.1 f2.1);rw[A];generalize fP (qN (ofB a) (ofB b))=t at*;refine goC [{r:=jV (qN (ofB a) (ofB b))},{r:=.tup [aE t.1,aB t.2]}] ?_;exact rtC}
theorem cPT (a b:ByteArray) (I:a.size<=4194304) (J:b.size<=4194304):Con prog 157 [aE a,aE b] (.tup [aE (bBZ a b).1,aB (bBZ a b).2]):=by have h1:=aPJ a b (by omega) (by omega);have o:=mD a b fun x y=>fP (qN x (oG y));rw[show un2 (fun x y=>fP (qN x (oG y))) a b=bBZ a b from rfl]at o;generalize K:(jJ a b).1=x at*;generalize L:(jJ a b).2.1=y at*;generalize he:(jJ a b).2.2=e at*;refine Con.oc func157 fun C M O=>?_;refine aA ?_;refine goC [{r:=.tup [jV x,jV y,aB e]}] ?_;refine aA ?_;rcases o with⟨o,A⟩|⟨o,rfl,rfl,A,D,E⟩;{refine .cnd (fun c1=>?_) (fun c1=>?_);{rw[A];refine aA ?_;exact rtC};exact absurd (by simpa using c1) o};{refine .cnd (fun c1=>?_) (fun c1=>?_);{exact absurd o (by simpa using c1)};have f1:=gE D;have f2:=gE E;have S:=bKC (ofB a) (oG (ofB b));have G:(oG (ofB b)).parts.length<=200:=f2.2;have U:=aDF (ofB b);have W:=aUL (ofB a) (oG (ofB b)) (by omega) (by omega);have Y:=oH (qN (ofB a) (oG (ofB b))) (by omega) (aCW f1.1 f2.1);rw[A];generalize fP (qN (ofB a) (oG (ofB b)))=t at*;refine goE [{r:=jV (oG (ofB b))},{r:=jV (qN (ofB a) (oG (ofB b)))},{r:=.tup [aE t.1,aB t.2]}] ?_;exact rtC}
theorem cNP (n:Int) (o: -9223372036854775808<=n) (h1:n<=9223372036854775807):Con prog 181 [aB n] (aE ⟨(Lib.itoa n).toArray⟩):=by have A:=zF n o h1;refine Con.oc func181 fun C D E=>?_;refine aA ?_;refine goC [{r:=aE ⟨(Lib.itoa n).toArray⟩}] ?_;exact rtC
end Go.Al
end
section
open Go Go.Aw Go.Proofs
open Tryz
namespace Go.Al
set_option maxRecDepth 100000
set_option maxRecDepth 20000
instance:FT prog f361:=.n
attribute [local simp] aT
theorem bFY (a:List Int) (n:Int) (ha:a.length<=1048576):Con prog 361 [aT a,aB n] (aT (lO a n)):=by
 obtain⟨N,hN⟩:∃N,N=a.length+1:=⟨_,rfl⟩;have hw:IntKind.i64.wrap ((a.length:Int)+1)=(N:Int):=by rw[bH (by omega) (by omega)];omega
 refine Con.oc func361 fun C hC hM=>?_;refine goX [] fun K A=>?_;simp[hw];refine A _ ?_;refine goX [] fun K A=>?_;simp[hw];refine ck A ?_;refine goX [] fun K A=>?_;simp[hw];refine A _ ?_;refine goX [] fun K A=>?_;simp[hw];refine A _ ?_;refine .block<| .loopG (fun i:Nat=>{tm:=[(0,aT a),(1,aB n),(5,.vec 12 1 0 N N),(6,aB (timesS a n i).2),(14,aB N),(15,aB i)],hp:=[(12,.cells 2 (kY (timesS a n i).1 N))]}) (fun i=>i<=N) (fun i=>N-i) 0 (by omega) (by simp[timesS,aRJ]) (fun i hi=>?_);have J:=aED a n i;refine aA ?_;refine .seq<| .cnd (fun D=>?_) (fun L=>?_);{have D:i<N:=(by simpa using D);have O:timesS a n (i+1)=((timesS a n i).1++[vJ (timesS.tmAt a n i (timesS a n i).2)],aAL (timesS.tmAt a n i (timesS a n i).2)):=rfl;have o:=aRI (timesS a n i).1 N (vJ (timesS.tmAt a n i (timesS a n i).2)) (by omega);have M:=aRK (timesS a n i).1 N (by omega);rw[J]at o;generalize(timesS a n i).2=I at*;refine aK ?_;refine .seqJ (fun _:Unit=>{tm:=[(0,aT a),(1,aB n),(5,.vec 12 1 0 N N),(7,aB i),(8,aB (timesS.tmAt a n i I)),(14,aB N),(15,aB i)],hp:=[(12,.cells 2 (kY (timesS a n i).1 N))]}) (fun _=>True) ?_ (fun hJ=>?_);{rintro- -;generalize timesS.tmAt a n i I=sm at*;refine goX [] fun K A=>?_;simp[D,M,o,vJ,aAL];refine ck A ?_;refine goX [] fun K A=>?_;simp[D,M,o,vJ,aAL];refine ck A ?_;refine⟨i+1,by omega,by omega,?_⟩;rw[O];simp[aC i (by omega),vJ,aAL]at o|-;rw[o];simp};{refine aA ?_;refine .cnd (fun E=>?_) (fun E=>?_);{have E:i<a.length:=(by simpa using E);have S:a.getD i 0=a[i]:=(by simp[E]);have U:timesS.tmAt a n i I=w64 (I+w64 (a[i]*n)):=(by unfold timesS.tmAt;rw[if_pos E,S]);refine goX [] fun K A=>?_;simp[E];refine ck A ?_;exact hJ _ () trivial (by simp[U])};have E:¬i<a.length:=(by simpa using E);have U:timesS.tmAt a n i I=I:=(by unfold timesS.tmAt;rw[if_neg E]);refine .skip ?_;exact hJ _ () trivial (by simp[U])}};have L:¬i<N:=by simpa using L
 refine .exit ?_;have G:i=N:=by omega
 have W:kY (timesS a n i).1 N=(timesS a n i).1.map fun n=>AV.val (.int .i64 n):=by have:=aRL (timesS a n i).1;rw[J,G]at this;rw[G];exact this
 have Y:lO a n=dH (timesS a n i).1:=by unfold lO;rw[G,hN]
 rw[Y,W];generalize(timesS a n i).1=l at*;have ad:=uL l (by omega);have Z:∀g:Nat->Option Blk,g 12=some (.cells 2 (l.map fun n=>AV.val (.int .i64 n)))->Rsv g (.vec 12 1 0 N N) (aT l):=fun g S=>by have:=Rsv.vec1 (g:=g) (b:=12) (n:=N) (e:=2) S (nP (by intro x hx;obtain⟨n,_,rfl⟩:=List.mem_map.1 hx;rfl)) (by rw[List.length_map];omega);rw[List.map_map]at this;exact this
 refine .freeze hM [12] {tm:=[(5,aT l)],hp:=[]} ⟨rfl,by simp,⟨.inr ⟨rfl,.inr ⟨by simp[within],_,Z _ rfl,.refl _⟩⟩,trivial⟩,trivial⟩ ?_;refine goC [{r:=aT (dH l)}] ?_;exact rtC
end Go.Al
end
