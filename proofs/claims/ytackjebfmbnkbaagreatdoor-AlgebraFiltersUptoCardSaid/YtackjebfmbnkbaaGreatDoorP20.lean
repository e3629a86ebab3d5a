/- The program: values and rows held against each other. -/
import Derived.Test.YtackjebfmbnkbaaGreatDoorP17
import Derived.Test.YtackjebfmbnkbaaGreatDoorP19
import Derived.Test.YtackjebfmbnkbaaGreatDoorP10
set_option linter.unusedSimpArgs false
set_option linter.unusedVariables false
set_option linter.unusedSectionVars false
section
open Go Go.Aw Go.Proofs
open Tryz
namespace Go.Al
variable [DR]
set_option maxRecDepth 100000
instance:FT prog f243:=.n
instance:FT prog f247:=.n
instance:FT prog f301:=.n
instance:FT prog f246:=.n
instance:FT prog f188:=.n
instance:FT prog f192:=.n
instance:FT prog f245:=.n
instance:FT prog f190:=.n
instance:FT prog f191:=.n
instance:FT prog f244:=.n
instance:FT prog f189:=.n
attribute [local simp] aP aV
theorem aZI (a:Int):Con prog 243 [dC a] (aD false):=by refine Con.oc func243 fun C o A=>?_;refine aK ?_;exact rtC
theorem cMU (a b:Int):Con prog 188 [dC a,dC b] (aB (dO a b)):=by have h1:=aZI a;have o:=aZI b;refine Con.oc func188 fun C A D=>?_;refine aA ?_;refine goC [{r:=aD false}] ?_;refine goC [{r:=aD false}] ?_;refine aA ?_;refine .cf (by simp) ?_;refine aA ?_;refine .cf (by simp) ?_;refine aA ?_;refine .cnd (fun h=>?_) (fun h=>?_);{refine aA ?_;refine .re ?_;exact .clos (by simp[dO,show a<b by simpa using h]) rfl};refine aA ?_;refine .cnd (fun g=>?_) (fun g=>?_);{refine aA ?_;refine .re ?_;exact .clos (by simp[dO,show ¬a<b by simpa using h,show b<a by simpa using g]) rfl};refine aA ?_;refine .re ?_;exact .clos (by simp[dO,show ¬a<b by simpa using h,show ¬b<a by simpa using g]) rfl
theorem aSV (a:Int):Con prog 247 [aB a] (aD false):=by refine Con.oc func247 fun C o A=>?_;refine aK ?_;exact rtC
theorem bKO (a b:Int):Con prog 192 [aB a,aB b] (aB (dO a b)):=by have h1:=aSV a;have o:=aSV b;refine Con.oc func192 fun C A D=>?_;refine aA ?_;refine goC [{r:=aD false}] ?_;refine goC [{r:=aD false}] ?_;refine aA ?_;refine .cf (by simp) ?_;refine aA ?_;refine .cf (by simp) ?_;refine aA ?_;refine .cnd (fun h=>?_) (fun h=>?_);{refine aA ?_;refine .re ?_;exact .clos (by simp[dO,show a<b by simpa using h]) rfl};refine aA ?_;refine .cnd (fun g=>?_) (fun g=>?_);{refine aA ?_;refine .re ?_;exact .clos (by simp[dO,show ¬a<b by simpa using h,show b<a by simpa using g]) rfl};refine aA ?_;refine .re ?_;exact .clos (by simp[dO,show ¬a<b by simpa using h,show ¬b<a by simpa using g]) rfl
theorem aZH (a:Int):Con prog 301 [aB a] (aD false):=by refine Con.oc func301 fun C o A=>?_;refine aK ?_;exact rtC
theorem bTA (a b:Int):Con prog 245 [aB a,aB b] (aB (dO a b)):=by have h1:=aZH a;have o:=aZH b;refine Con.oc func245 fun C A D=>?_;refine aA ?_;refine goC [{r:=aD false}] ?_;refine goC [{r:=aD false}] ?_;refine aA ?_;refine .cf (by simp) ?_;refine aA ?_;refine .cf (by simp) ?_;refine aA ?_;refine .cnd (fun h=>?_) (fun h=>?_);{refine aA ?_;refine .re ?_;exact .clos (by simp[dO,show a<b by simpa using h]) rfl};refine aA ?_;refine .cnd (fun g=>?_) (fun g=>?_);{refine aA ?_;refine .re ?_;exact .clos (by simp[dO,show ¬a<b by simpa using h,show b<a by simpa using g]) rfl};refine aA ?_;refine .re ?_;exact .clos (by simp[dO,show ¬a<b by simpa using h,show ¬b<a by simpa using g]) rfl
theorem aZG (a:ByteArray):Con prog 246 [aE a] (aD false):=by refine Con.oc func246 fun C o A=>?_;refine aK ?_;exact rtC
theorem bSZ (a b:ByteArray):Con prog 190 [aE a,aE b] (aB (kU a b)):=by have h1:=aZG a;have o:=aZG b;refine Con.oc func190 fun C A D=>?_;refine aA ?_;refine goC [{r:=aD false}] ?_;refine goC [{r:=aD false}] ?_;refine aA ?_;refine .cf (by simp) ?_;refine aA ?_;refine .cf (by simp) ?_;refine aA ?_;refine .cnd (fun h=>?_) (fun h=>?_);{refine aA ?_;refine .re ?_;exact .clos (by simp[kU,ltB,h]) rfl};refine aA ?_;refine .cnd (fun g=>?_) (fun g=>?_);{refine aA ?_;refine .re ?_;exact .clos (by simp[kU,ltB,h];simpa[h]using g) rfl};refine aA ?_;refine .re ?_;exact .clos (by simp[kU,ltB,h];simpa[h]using g) rfl
theorem cCH (l:List Int) (k:Nat) (h:k<l.length):orI (l.drop k)=if l[k]=0 then orI (l.drop (k+1))else l[k]:=by rw[List.drop_eq_getElem_cons h];rfl
def aT (l:List Int):AV:=.rd 1 (l.map fun n=>[aB n])
attribute [local simp] aT
theorem cNO (l:List Int) (J:l.length<=1099511627776):Con prog 191 [aT l] (aB (orI l)):=by
 refine Con.oc func191 fun C L M=>?_;refine bQ ?_;refine .block<| .loopG (fun k:Nat=>{tm:=[(3,aB 0),(6,aT l),(7,aB l.length),(8,aB k)],hp:=[]}) (fun k=>k<=l.length/\orI l=orI (l.drop k)) (fun k=>l.length-k) 0 ⟨by omega,by simp⟩ (by simp) fun k hk=>?_;obtain⟨I,A⟩:=hk;refine aA ?_;refine .seq<| .cnd (fun o=>?_) (fun D=>?_);{have o:k<l.length:=(by simpa using o);have G:=cCH l k o;refine goX [] fun K E=>?_;simp[o];refine ck E ?_;refine goX [] fun K E=>?_;simp[o];refine E _ ?_;refine .cnd (fun hp=>?_) (fun hp=>?_);{refine aA ?_;refine .re ?_;have hp:¬l[k]=0:=(by simpa using hp);refine .clos ?_ rfl;rw[A,G,if_neg hp];rfl};have hp:l[k]=0:=(by simpa using hp);refine aA ?_;refine⟨k+1,⟨by omega,by rw[A,G,if_pos hp]⟩,by omega,?_⟩;simp[aC k (by omega)]};have D:¬k<l.length:=by simpa using D
 refine .exit ?_;refine aA ?_;refine .re ?_;refine .clos ?_ rfl;rw[A,List.drop_eq_nil_of_le (by omega)];rfl
theorem aDX (s p:ByteArray) (o:s.size<=1099511627776) (hp:p.size<=1099511627776):Con prog 244 [aE s,aE p] (aD (kZ s p)):=by have h:=zE s p o hp;refine Con.oc func244 fun C A D=>?_;refine aA ?_;refine goC [{r:=aD (kZ s p)}] ?_;exact rtC
theorem aHR {s:ByteArray} (h:lV s=true):1<=s.size:=by unfold lV kZ at h;rw[Bool.and_eq_true]at h;exact of_decide_eq_true h.1
theorem aCO {s:ByteArray} (h:1<=s.size):(s.extract 1 s.size).size=s.size-1:=by simp
theorem bEO (n:Nat):∀ (a b:ByteArray),(a.size<n\/b.size<n)->a.size<=1099511627776->b.size<=1099511627776->Con prog 189 [aE a,aE b] (aB (aOV n a b)):=by
 induction n with|zero=>intro a b h;omega|succ n bEO=>
 intro a b h E G;have O:=aDX a ⟨#[45]⟩ E (by decide);have S:=aDX b ⟨#[45]⟩ G (by decide);have I:=bTA a.size b.size;have J:=bSZ a b;have L:=cNO [dO a.size b.size,kU a b] (by simp);have D:lV a=true->lV b=true->Con prog 189 [aE (b.extract 1 b.size),aE (a.extract 1 a.size)] (aB (aOV n (b.extract 1 b.size) (a.extract 1 a.size))):=fun h1 o=>by have:=aHR h1;have:=aHR o;exact bEO _ _ (by rw[aCO (by omega),aCO (by omega)];omega) (by rw[aCO (by omega)];omega) (by rw[aCO (by omega)];omega)
 unfold aOV;refine Con.oc func189 fun C U W=>?_;refine aA ?_;refine goC [{r:=aD (lV a)},{r:=aD (lV b)}] ?_;refine aA ?_;refine .cnd (fun h1=>?_) (fun h1=>?_);{have h1:lV a=true/\lV b=true:=(by simpa using h1);have:=aHR h1.1;have:=aHR h1.2;have D:=D h1.1 h1.2;refine goE [{r:=aB (aOV n (b.extract 1 b.size) (a.extract 1 a.size))}] ?_;refine .re ?_;exact .clos (by rw[if_pos (by simp[h1])];rfl) rfl};have h1:¬ (lV a=true/\lV b=true):=by simpa using h1
 refine aA ?_;refine .cnd (fun o=>?_) (fun o=>?_);{refine aA ?_;refine .re ?_;exact .clos (by rw[if_neg (by simpa using h1),if_pos o];rfl) rfl};refine aA ?_;refine .cnd (fun A=>?_) (fun A=>?_);{refine aA ?_;refine .re ?_;exact .clos (by rw[if_neg (by simpa using h1),if_neg (by simpa using o),if_pos A];rfl) rfl};refine goX [{r:=aB (dO a.size b.size)},{r:=aB (kU a b)},{r:=aB (orI [dO a.size b.size,kU a b])}] fun K M=>?_;simp;(repeat first|refine ob ?_ |refine⟨by intros;exact aX rfl I,?_⟩|refine⟨by intros;exact aX rfl J,?_⟩|refine⟨by intros;exact eK rfl (by repeat(first|exact WkL.nil|refine WkL.cons (by first|exact Wk.refl _|exact Wk.nil _|exact Wk.own (WkR.refl _)) ?_)) L,?_⟩);refine M _ ?_;refine .re ?_;exact .clos (by rw[if_neg (by simpa using h1),if_neg (by simpa using o),if_neg (by simpa using A)];rfl) rfl
end Go.Al
end
section
open Go Go.Aw Go.Proofs
open Tryz
namespace Go.Al
set_option maxRecDepth 100000
set_option maxRecDepth 20000
instance:FT prog f240:=.n
def G229:FnT prog f229:=.m [(1,[0]),(4,[3]),(0,[15]),(4,[15]),(16,[0,2,3])]
instance:FT prog f229:=.n
theorem bSE (s:ByteArray):(fG s).size<=s.size:=by unfold fG dP;split;{simp};{exact Nat.le_refl _}
theorem vA (s:ByteArray) (Y:s.size<=1099511627776):Con prog 240 [aE s] (aB (cX s)):=by
 have Z:=wD s tMinus Y (by decide);have hle:=bSE s;have W:cX s=if bEP s (fG s)=true then 4 else if dE nI (fG s) 0=true then(if 200<(fG s).size then 80 else 0)else 4:=rfl
 rw[W];rw[show dP s tMinus=fG s from rfl]at Z;generalize fG s=d at*;refine Con.oc func240 fun C hC hM=>?_;refine aA ?_;refine goC [{r:=aE d}] ?_;refine .seq<| .seqJ (fun _:Unit=>{tm:=[(3,aE d),(17,aD (bEP s d))],hp:=[]}) (fun _=>True) ?_ (fun S=>?_);{rintro- -;refine .cnd (fun h1=>?_) (fun h1=>?_);{rw[if_pos h1];refine aA ?_;exact rtC};rw[if_neg (by rw[h1];simp)];refine aA ?_;refine .block<| .loopG (fun k:Nat=>{tm:=[(3,aE d),(19,aB d.size),(20,aB k)],hp:=[]}) (fun k=>k<=d.size/\dE nI d 0=dE nI d k) (fun k=>d.size-k) 0 ⟨by omega,rfl⟩ (by simp) (fun k hk=>?_);obtain⟨aa,E⟩:=hk;refine aA ?_;refine .seq<| .cnd (fun o=>?_) (fun M=>?_);{have o:k<d.size:=(by simpa using o);have J:=iD nI d k o;refine goX [] fun K A=>?_;simp[o];refine A _ ?_;refine goX [] fun K A=>?_;simp[o];refine ck A ?_;by_cases c1:chr d k<48;{have O:nI (chr d k)=false:=(by unfold nI;simp;omega);rw[E,J,O];refine .ct (by simp;omega) ?_;refine aA ?_;exact rtC};by_cases c2:57<chr d k;{have O:nI (chr d k)=false:=(by unfold nI;simp;omega);rw[E,J,O];refine .ct (by simp;omega) ?_;refine aA ?_;exact rtC};have O:nI (chr d k)=true:=(by unfold nI;simp;omega);refine .cf (by simp;omega) ?_;refine aA ?_;refine⟨k+1,⟨by omega,by rw[E,J,O];rfl⟩,by omega,?_⟩;simp[aC k (by omega)]};have M:¬k<d.size:=(by simpa using M);refine .exit ?_;rw[E,rO nI d k (by omega),if_pos rfl];refine aA ?_;refine .cnd (fun G=>?_) (fun G=>?_);{have G:(200:Int)<d.size:=(by simpa using G);have G:200<d.size:=(by omega);rw[if_pos G];refine aA ?_;exact rtC};have G:(d.size:Int)<=200:=(by simpa using G);have G:¬200<d.size:=(by omega);rw[if_neg G];refine aA ?_;exact rtC};{by_cases I:d=⟨#[]⟩;{refine goX [] fun K A=>?_;simp[I];refine ck A ?_;exact S _ () trivial (by simp[bEP,I])};have D:=lQ I;by_cases L:chr d 0=48;{by_cases U:s=⟨#[48]⟩;{refine goX [] fun K A=>?_;simp[I,L,U,D];refine ck A ?_;exact S _ () trivial (by simp[bEP,I,L,U])};{refine goX [] fun K A=>?_;simp[I,L,U,D];refine ck A ?_;exact S _ () trivial (by simp[bEP,I,L,U])}};{refine goX [] fun K A=>?_;simp[I,L,D];refine ck A ?_;exact S _ () trivial (by simp[bEP,I,L])}}
attribute [local simp] aT
theorem uL (l:List Int) (O:l.length<=1099511627776):Con prog 229 [aT l] (aT (dH l)):=by
 refine Con.oc func229 fun C J S=>?_;refine aK ?_;refine .seq<| .block<| .loopG (fun n:Nat=>{tm:=[(0,aT l),(3,aB n)],hp:=[]}) (fun n=>n<=l.length/\pV l l.length=pV l n) (fun n=>n) l.length ⟨Nat.le_refl _,rfl⟩ (by simp) (fun n L=>?_);obtain⟨M,A⟩:=L;have o:pV l l.length=n->dH l=l.take n:=fun e=>by unfold dH;rw[e]
 cases n with|zero=>refine .seq<| .seq<| .gl G229 J 2 [] fun K D=>?_;simp[aQU,qM];refine ck D ?_;refine .cf (by simp) ?_;refine .exit ?_;rw[o (by rw[A];rfl)];refine aA ?_;refine .re ?_;simp only[aT,List.take_zero,List.map_nil];exact .fx|succ n=>have hw:IntKind.i64.wrap (n:Int)=n:=bH (by omega) (by omega);have E:l.getD n 0=l[n]:=(by simp[show n<l.length by omega]);have G:n<l.length:=(by omega);by_cases I:l[n]=0;{refine goX [] fun K D=>?_;simp[hw,G,I];refine ck D ?_;refine .ct (by simp) ?_;refine goX [] fun K D=>?_;simp[hw];refine D _ ?_;refine⟨n,⟨by omega,by rw[A,pV,if_pos (by rw[E];exact I)]⟩,by omega,?_⟩;simp};{refine goX [] fun K D=>?_;simp[hw,G,I];refine ck D ?_;refine .cf (by simp) ?_;refine .exit ?_;rw[o (by rw[A,pV,if_neg (by rw[E];exact I)])];refine aA ?_;refine .re ?_;simp only[aT,List.map_take];exact .fx}
end Go.Al
end
section
open Go Go.Aw Go.Proofs
open Tryz
namespace Go.Al
set_option maxRecDepth 100000
set_option maxRecDepth 20000
instance:FT prog f287:=.n
attribute [local simp] aT
def qZ (l:List Int):List (List AV):=l.map fun n=>[aB n]
@[simp] theorem wR (l:List Int):(qZ l).length=l.length:=by simp[qZ]
def jV (x:nJ):AV:=.agg [aD x.neg,aT x.parts]
theorem cCP (s:ByteArray) (hs:s.size<=1099511627776) (hd:∀i,i<(fG s).size->48<=chr (fG s) i/\chr (fG s) i<=57):Con prog 287 [aE s] (jV (ofB s)):=by
 have hT:=wD s tMinus hs (by decide);have hle:=bSE s;unfold ofB;rw[show dP s tMinus=fG s from rfl]at hT;generalize fG s=d at*;refine Con.oc func287 fun C hC hM=>?_;refine aA ?_;refine goC [{r:=aE d}] ?_;refine aK ?_;refine .block<| .loopG (fun x:Nat×List Int×Int=>{tm:=[(2,.ptr 2 0),(3,aE d),(4,.ptr 4 0),(5,aB x.2.2)],hp:=[(2,.cells 259 [aD false,.val (.slice none 0 0)]),(4,.cells 259 [aD (decide (d.size<s.size)),.own 2 1 (qZ x.2.1)])]}) (fun x=>x.2.2<=d.size/\ -9<=x.2.2/\gV d d.size d.size=x.2.1++gV d x.1 x.2.2.toNat/\x.2.2.toNat<=x.1/\x.2.1.length+x.1<=1099511627776) (fun x=>x.1) (d.size,[],d.size) ⟨by simp<;>omega,by simp<;>omega,by simp,by simp,by simp<;>omega⟩ (by simp[qZ]) (fun x hk=>?_);obtain⟨m,D,e⟩:=x;obtain⟨k1,k2,Y,k4,k5⟩:=hk;simp only at k1 k2 Y k4 k5;refine aA ?_;refine .cnd (fun G=>?_) (fun I=>?_);{have G:0<e:=(by simpa using G);obtain⟨E,rfl⟩:∃E:Nat,e=E:=⟨e.toNat,by omega⟩;simp only[Int.toNat_natCast]at Y k4;obtain⟨m,rfl⟩:∃m',m=m'+1:=⟨m-1,by omega⟩;have J:gV d (m+1) E=aOH d (E-(E-9)) (E-9) 0::gV d m (E-9):=(by rw[gV,if_neg (by omega)]);have A:IntKind.i64.wrap ((E:Int)-9)=E-9:=bH (by omega) (by omega);have L:(if(E:Int)-9>0 then(E:Int)-9 else 0)=((E-9:Nat):Int):=(by split<;>omega);have an:IntKind.i64.wrap ((E:Int)-9)=(E:Int)-9:=A;refine goX [] fun K o=>?_;simp[A,L];refine o _ ?_;refine goX [] fun K o=>?_;simp[A,L];refine o _ ?_;refine .block<| .loopG (fun y:Nat×Int=>{tm:=[(2,.ptr 2 0),(3,aE d),(4,.ptr 4 0),(5,aB E),(6,aB y.2),(7,aB y.1)],hp:=[(2,.cells 259 [aD false,.val (.slice none 0 0)]),(4,.cells 259 [aD (decide (d.size<s.size)),.own 2 1 (qZ D)])]}) (fun y=>E-9<=y.1/\y.1<=E/\aOH d (E-(E-9)) (E-9) 0=aOH d (E-y.1) y.1 y.2/\0<=y.2/\y.2<((10 ^ (y.1-(E-9)):Nat):Int)) (fun y=>E-y.1) (E-9,0) ⟨by simp,by simp,by simp,by simp,by simp⟩ (by simp;split<;>omega) (fun y hy=>?_);obtain⟨i,n⟩:=y;obtain⟨y1,y2,Z,y4,y5⟩:=hy;simp only at y1 y2 Z y4 y5;refine aA ?_;refine .cnd (fun M=>?_) (fun O=>?_);{have M:i<E:=(by simpa using M);have hid:i<d.size:=(by omega);obtain⟨g1,g2⟩:=hd i hid;have S:aOH d (E-i) i n=aOH d (E-(i+1)) (i+1) (10*n+(chr d i-48)):=(by rw[show E-i=(E-(i+1))+1 by omega,aOH]);have av:(10:Nat) ^ (i+1-(E-9))=10*10 ^ (i-(E-9)):=(by rw[show i+1-(E-9)=(i-(E-9))+1 by omega,Nat.pow_succ];omega);have aw:(10:Nat) ^ (i+1-(E-9))<=10 ^ 9:=Nat.pow_le_pow_right (by omega) (by omega);generalize(10:Nat) ^ (i-(E-9))=B at*;have w1:IntKind.i64.wrap (10*n)=10*n:=bH (by omega) (by omega);have w2:IntKind.u8.wrap (chr d i-48)=chr d i-48:=(by rw[IntKind.wrap_u8];omega);have w3:IntKind.i64.wrap (chr d i-48)=chr d i-48:=bH (by omega) (by omega);have w4:IntKind.i64.wrap (10*n+(chr d i-48))=10*n+(chr d i-48):=bH (by omega) (by omega);refine goX [] fun K o=>?_;simp[hid,w1,w2,w3,w4];refine ck o ?_;refine goX [] fun K o=>?_;simp[hid,w1,w2,w3,w4];refine ck o ?_;refine⟨(i+1,10*n+(chr d i-48)),⟨by simp only;omega,by simp only;omega,by simp only;rw[Z,S],by simp only;omega,by simp only;omega⟩,by simp only;omega,?_⟩;simp[aC i (by omega)]};have O:¬i<E:=(by simpa using O);refine .exit ?_;have U:aOH d (E-(E-9)) (E-9) 0=n:=(by rw[Z,show E-i=0 by omega];rfl);rw[U]at J;refine goX [] fun K o=>?_;simp[A];refine ck o ?_;refine goX [] fun K o=>?_;simp[A];refine o _ ?_;refine⟨(m,D++[n],(E:Int)-9),⟨by simp only;omega,by simp only;omega,by simp only;rw[Y,J,show((E:Int)-9).toNat=E-9 by omega];simp,by simp only;omega,by simp only[List.length_append,List.length_cons,List.length_nil];omega⟩,by simp only;omega,?_⟩;simp[qZ]};have I:¬0<e:=by simpa using I
 refine .exit ?_;have W:gV d d.size d.size=D:=by rw[Y,show e.toNat=0 by omega];cases m with|zero=>simp[gV]|succ m=>rw[gV,if_pos rfl];simp
 rw[W];have aa:=uL D (by omega);simp only[aT]at aa;refine goX [{r:=aT (dH D)}] fun K o=>?_;simp[qZ];refine ck o ?_;refine aA ?_;exact rtC
end Go.Al
end
