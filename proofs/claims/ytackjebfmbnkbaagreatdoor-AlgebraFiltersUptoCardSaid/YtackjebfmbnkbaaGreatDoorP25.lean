/- The program: names, variables, operators, iP. -/
import Derived.Test.YtackjebfmbnkbaaGreatDoorP19
import Derived.Test.YtackjebfmbnkbaaGreatDoorP17
import Derived.Test.YtackjebfmbnkbaaGreatDoorP24
import Derived.Test.YtackjebfmbnkbaaGreatDoorP16
import Derived.Test.YtackjebfmbnkbaaGreatDoorP08
set_option linter.unusedSimpArgs false
set_option linter.unusedVariables false
set_option linter.unusedSectionVars false
section
open Go Go.Aw Go.Proofs
open Tryz
namespace Go.Al
set_option maxRecDepth 100000
instance:FT prog f322:=.n
instance:FT prog f255:=.n
instance:FT prog f339:=.n
instance:FT prog f346:=.n
instance:FT prog f378:=.n
instance:FT prog f210:=.n
instance:FT prog f353:=.n
attribute [local simp] aP aV bG bK aR lL aZ zQ
theorem cPA {fz:Fz} {w:World} (A:sK fz w) (D:GLok fz):∃m,w.cell? ⟨0,0,none⟩=some (.int .i64 m):=by obtain⟨o,h1,m,t,f,rfl⟩:=D.1 _ (List.mem_cons_self ..);have:=A.2 _ _ h1;simp_all [World.cell?]
theorem bKL (s t:ByteArray) (D:s.size<=4194304):Con prog 323 [aE s,aE t] (aD (Lib.contains (bl s) (bl t))):=
 Con.libG [.string s,.string t] _ ⟨_,func323,by kernel_rfl,rfl⟩ fun fz w o A=>by
  obtain⟨m,hm⟩:=cPA o A
  refine(Tryz.strings_Contains s t m w (by omega) hm).mono ?_
  rintro e w' ⟨rfl,rfl⟩
  exact⟨rfl,Ext.refl _⟩
theorem bQL (s:ByteArray) (L:s.size<=4194304):Con prog 322 [aE s] (aD (aMV s)):=by
 unfold aMV;refine Con.oc func322 fun C M O=>?_;refine aK ?_;refine .block<| .loopG (fun k:Nat=>{tm:=[(0,aE s),(6,aB s.size),(7,aB k)],hp:=[]}) (fun k=>k<=s.size/\dE iG s 0=dE iG s k) (fun k=>s.size-k) 0 ⟨by omega,rfl⟩ (by simp) (fun k hk=>?_);obtain⟨J,A⟩:=hk;refine aA ?_;refine .seq<| .cnd (fun o=>?_) (fun E=>?_);{have o:k<s.size:=(by simpa using o);have G:=iD iG s k o;refine goX [] fun K I=>?_;simp[o];refine I _ ?_;refine goX [] fun K I=>?_;simp[o];refine ck I ?_;refine goX [] fun K I=>?_;simp[o];refine ck I ?_;refine .cnd (fun D=>?_) (fun D=>?_);{have D:iG (chr s k)=false:=(by unfold iG jQ;simp at D|-;omega);refine aA ?_;refine .re ?_;refine .clos ?_ rfl;rw[A,G,D];rfl};have D:iG (chr s k)=true:=(by unfold iG jQ;simp at D|-;omega);refine aA ?_;refine⟨k+1,⟨by omega,by rw[A,G,D];rfl⟩,by omega,?_⟩;simp[aC k (by omega)]};have E:¬k<s.size:=by simpa using E
 refine .exit ?_;refine aA ?_;refine .re ?_;refine .clos ?_ rfl;rw[A,rO iG s k (by omega)];simp[kR];omega
theorem aAR (s:ByteArray) (D:s.size<=4194304):Con prog 255 [aE s] (aD (nameR s)):=by
 have h1:=bQL s D;have E:=bKL aQA (⟨#[32]⟩++s++⟨#[32]⟩) (by decide);rw[<-bMV];have o:(⟨#[32]⟩:ByteArray).size+s.size<=4611686018427387904:=by show 1+_<=_;omega
 have A:(⟨#[32]⟩:ByteArray).size+s.size+(⟨#[32]⟩:ByteArray).size<=4611686018427387904:=by show 1+_+1<=_;omega
 refine Con.oc func255 fun C I J=>?_;refine aA ?_;refine goX [{r:=aD (aMV s)},{r:=aD (Lib.contains (bl aQA) (bl (⟨#[32]⟩++s++⟨#[32]⟩)))}] fun K G=>?_;simp;(repeat first|refine ob ?_ |refine⟨fun h=>lQ h,?_⟩|refine⟨fun h _=>lQ h,?_⟩|refine⟨by intros;exact aX rfl h1,?_⟩|refine⟨by intros;exact o,?_⟩|refine⟨by intros;exact A,?_⟩|refine⟨by intros;exact aX rfl E,?_⟩);refine G _ ?_;refine .re ?_;refine .clos ?_ rfl;simp[jQ,Bool.and_assoc]
theorem bHY (s:ByteArray) (D:s.size<=4194304):Con prog 339 [aE s] (aD (aWA s)):=by
 have h1:=cHZ s (by omega);have E:(vV s).size<=s.size/\(vU s).size<=s.size:=by unfold vV vU;split;{exact⟨bDP s _ _,bDP s _ _⟩};{exact⟨Nat.le_refl _,Nat.zero_le _⟩}
 have G:=aAR (vV s) (by omega);have I:=aAR (vU s) (by omega);have o:aWA s=(nameR (vV s)&&(!aIP s||nameR (vU s))):=by unfold aWA vV vU aIP;by_cases h:dL s 0<s.size;{simp[h]};{simp[h]}
 rw[o];refine Con.oc func339 fun C J K=>?_;refine aA ?_;refine goC [{r:=.tup [aE (vV s),aE (vU s),aD (aIP s)]}] ?_;refine goC [{r:=aD (nameR (vV s))},{r:=aD (nameR (vU s))}] ?_;refine .re ?_;refine .clos ?_ rfl;generalize nameR (vV s)=A;generalize nameR (vU s)=a2;generalize aIP s=a3;cases A<;>cases a2<;>cases a3<;>rfl
theorem bBO (s:ByteArray) (o:s.size<=4194304):Con prog 346 [aE s] (aD (varB s)):=by have h1:=bQL s o;rw[<-cAP];refine Con.oc func346 fun C D E=>?_;refine aA ?_;refine goX [{r:=aD (aMV s)}] fun K A=>?_;simp;(repeat first|refine ob ?_ |refine⟨fun h=>lQ h,?_⟩|refine⟨fun h _=>lQ h,?_⟩|refine⟨by intros;exact aX rfl h1,?_⟩);refine A _ ?_;refine .re ?_;refine .clos ?_ rfl;simp[upB,Bool.and_assoc]
theorem aID (s:ByteArray):Con prog 378 [aE s] (aD (function s)):=by refine Con.oc func378 fun C A D=>?_;refine aK ?_;refine .re ?_;refine .clos ?_ rfl;unfold function aGJ bBU bBW bBV;by_cases o:s=⟨#[110,101,103]⟩<;>by_cases a2:s=⟨#[108,101,110]⟩<;>by_cases a3:s=⟨#[98,105,103]⟩<;>by_cases a4:s=⟨#[105,110,116]⟩<;>simp[o,a2,a3,a4]
theorem aSC:∀l:List ExprD,pH cK l=mM l
 |[]=>rfl
 |e::l=>by simp only[pH,mM,aSC l]
theorem aTX:∀ (n:Nat) (e:ExprD),bI e<n->bI e<=4194304->Con prog 210 [bG e] (aB (cK e)):=by intro n;induction n with|zero=>intro e h;omega|succ n D=>intro e J K;have E:=fL e;have hlen:=fI e.args;have o:=bAP e;have G:=aFP e.args;have I:=aNZ 210 cK e.args (by omega) (fun x A=>by have:=fA A;have:=xI x;omega) (fun x A=>by have:=fA A;exact D x (by omega) (by omega));rw[aSC]at I;refine Con.oc func210 fun C L M=>?_;refine aA ?_;refine goC [{r:=aB (mM e.args)}] ?_;refine .re ?_;refine .clos ?_ rfl;rw[o];simp[kR];rw[bH (by omega) (by omega)];omega
theorem bZS (v:ValD) (A:aY v<=4194304):Con prog 353 [aP v] (aD (noneV v)):=by have o:=cM v;have hlen:=bJ v.l;refine Con.oc func353 fun C D E=>?_;refine aK ?_;refine .re ?_;refine .clos ?_ rfl;simp[noneV,Bool.and_assoc]
end Go.Al
end
section
open Go Go.Aw Go.Proofs
open Tryz
namespace Go.Al
set_option maxRecDepth 100000
instance:FT prog f352:=.n
instance:FT prog f354:=.n
instance:FT prog f281:=.m [(4,[2,3]),(8,[5]),(1,[6]),(0,[13]),(2,[14]),(8,[3,6,7,13,14]),(2097152,[2,4,5,7]),(2,[2,3,4,5,6,13,40]),(128,[5,13,40]),(2,[5,13,49]),(1024,[5,13,49]),(2,[5,13,61]),(2048,[5,13,61]),(2,[5,13,74]),(128,[5,13,74]),(2,[5,13,83]),(16,[6,8,13,83]),(2048,[5,6,8]),(2,[5,13,100]),(2048,[5,13,100]),(2,[5,113]),(2048,[5,113]),(4096,[2,3,4,6])]
instance:FT prog f251:=.n
instance:FT prog f211:=.n
def arL:List (ByteArray×Int):=[(⟨#[110,111,116]⟩,1),(⟨#[110,101,103]⟩,1),(⟨#[108,101,110]⟩,1),(⟨#[98,105,103]⟩,1),(⟨#[105,110,116]⟩,1),(⟨#[43]⟩,2),(⟨#[45]⟩,2),(⟨#[42]⟩,2),(⟨#[47]⟩,2),(⟨#[37]⟩,2),(⟨#[43,43]⟩,2),(⟨#[61,61]⟩,2),(⟨#[33,61]⟩,2),(⟨#[60]⟩,2),(⟨#[60,61]⟩,2),(⟨#[62]⟩,2),(⟨#[62,61]⟩,2),(⟨#[97,110,100]⟩,2),(⟨#[111,114]⟩,2)]
def arN:Nat->List Value×List AV
 |0=>([],[])
 |k+1=>fQ (.string (arL.getD k (.empty,0)).1) (aB (arL.getD k (.empty,0)).2) (arN k).1 (arN k).2
attribute [local simp] aP aV bG bK aR lL aZ zQ
def isS:Value->Bool
 | .string _=>true
 |_=>false
theorem cLI:∀k,k<20->(arN k).1.all isS=true:=by decide+kernel
theorem xP (k:Nat) (h:k<20) (s:ByteArray):∀a∈(arN k).1,cW (.string s) a=true:=by intro a o;have:=List.all_eq_true.1 (cLI k h) a o;cases a<;>assumption
theorem bBD:∀k,k<20->aW (arN k).2=true:=by decide+kernel
theorem aUJ (k:Nat) (h:k<20) (l:List Nat):bD l (arN k).2=true:=aN l _ (bBD k h)
theorem cLJ:∀k (h:k<14),arL.getD (k+5) (.empty,0)=(ops[k]'h,2):=by decide+kernel
theorem bSG:(arN 19).1=arL.map (fun p=>Value.string p.1)/\(arN 19).2=arL.map (fun p=>aB p.2):=⟨by rfl,by rfl⟩
theorem aSO (s:ByteArray):∀l:List (ByteArray×Int),eQ (.string s) (l.map fun p=>Value.string p.1) (l.map fun p=>aB p.2)=((l.find? fun p=>decide (s=p.1)).map fun p=>aB p.2)|[]=>rfl|p::l=>by rw[List.map_cons,List.map_cons,eQ,aSO s l,List.find?_cons];grind [dR]
theorem bOR (s:ByteArray):aDU s=(((arL.find? fun p=>decide (s=p.1)).map fun p=>p.2).getD 0):=by
 by_cases h0:s=⟨#[110,111,116]⟩;{subst h0;decide+kernel};by_cases h1:s=⟨#[110,101,103]⟩;{subst h1;decide+kernel};by_cases M:s=⟨#[108,101,110]⟩;{subst M;decide+kernel};by_cases O:s=⟨#[98,105,103]⟩;{subst O;decide+kernel};by_cases S:s=⟨#[105,110,116]⟩;{subst S;decide+kernel};by_cases U:s=⟨#[43]⟩;{subst U;decide+kernel};by_cases W:s=⟨#[45]⟩;{subst W;decide+kernel};by_cases Y:s=⟨#[42]⟩;{subst Y;decide+kernel};by_cases Z:s=⟨#[47]⟩;{subst Z;decide+kernel};by_cases h9:s=⟨#[37]⟩;{subst h9;decide+kernel};by_cases o:s=⟨#[43,43]⟩;{subst o;decide+kernel};by_cases A:s=⟨#[61,61]⟩;{subst A;decide+kernel};by_cases D:s=⟨#[33,61]⟩;{subst D;decide+kernel};by_cases E:s=⟨#[60]⟩;{subst E;decide+kernel};by_cases G:s=⟨#[60,61]⟩;{subst G;decide+kernel};by_cases I:s=⟨#[62]⟩;{subst I;decide+kernel};by_cases J:s=⟨#[62,61]⟩;{subst J;decide+kernel};by_cases K:s=⟨#[97,110,100]⟩;{subst K;decide+kernel};by_cases L:s=⟨#[111,114]⟩;{subst L;decide+kernel};have hf:(arL.find? fun p=>decide (s=p.1))=none:=by simp[arL,h0,h1,M,O,S,U,W,Y,Z,h9,o,A,D,E,G,I,J,K,L]
 rw[hf];have ho:cOU s=false:=by simp[cOU,ops,Ne.symm U,Ne.symm W,Ne.symm Y,Ne.symm Z,Ne.symm h9,Ne.symm o,Ne.symm A,Ne.symm D,Ne.symm E,Ne.symm G,Ne.symm I,Ne.symm J,Ne.symm K,Ne.symm L]
 have hg:function s=false:=by simp[function,aGJ,bBU,bBW,bBV,h1,M,O,S]
 simp_all [aDU,bGC]
def arX:AV:=.rmap (arN 19).1 (arN 19).2
theorem bBA:Con prog 352 [] arX:=by
 refine Con.oc func352 fun C J L=>?_;refine goC [] ?_;refine goX [] fun K E=>?_;simp;(repeat first|refine ob ?_ |refine⟨fun a A=>xP 1 (by omega) _ a A,?_⟩|refine⟨fun a A=>xP 2 (by omega) _ a A,?_⟩|refine⟨fun a A=>xP 3 (by omega) _ a A,?_⟩|refine⟨fun a A=>xP 4 (by omega) _ a A,?_⟩);refine E _ ?_;refine aA ?_;refine .block ?_;show AWp prog C _ _ {tm:=[(1,.mapr 4),(6,.own 9 1 (aZ ops)),(7,aB 14),(8,aB 0)],hp:=[(4,.map (arN 5).1 (arN 5).2)]};refine .loopG (fun k:Nat=>{tm:=[(1,.mapr 4),(6,.own 9 1 (aZ ops)),(7,aB 14),(8,aB k)],hp:=[(4,.map (arN (k+5)).1 (arN (k+5)).2)]}) (fun k=>k<=14) (fun k=>14-k) 0 (by omega) (by simp[aUJ 5 (by omega)]) (fun k hk=>?_);refine aA ?_;refine .seq<| .cnd (fun o=>?_) (fun D=>?_);{have o:k<14:=(by simp at o;omega);have I:=xP (k+5) (by omega) (ops[k]'o);have G:ops.length=14:=rfl;refine goX [] fun K E=>?_;simp[o,G];refine⟨by omega,E _ ?_⟩;refine goX [] fun K E=>?_;simp[o,G];(repeat first|refine ob ?_ |refine⟨fun a A=>I a A,?_⟩);refine E _ ?_;refine aA ?_;refine⟨k+1,by omega,by omega,?_⟩;have he:arN (k+1+5)=fQ (.string (ops[k]'o)) (aB 2) (arN (k+5)).1 (arN (k+5)).2:=(by show fQ (.string (arL.getD (k+5) (.empty,0)).1) (aB (arL.getD (k+5) (.empty,0)).2) (arN (k+5)).1 (arN (k+5)).2=_;rw[cLJ k o]);have hw:=aUJ (k+1+5) (by omega) [4];rw[he]at hw;rw[he];simp[aC k (by omega)];exact⟨⟨rfl,.inl rfl⟩,by simpa using hw⟩};have D:k=14:=by simp at D;omega
 subst D;refine .exit ?_;refine aA ?_;refine .re ?_;exact .mapr rfl (RsvL.closed (bBD 19 (by omega)))
theorem cEA (s:ByteArray):(eQ (.string s) (arN 19).1 (arN 19).2=none/\aDU s=0)\/eQ (.string s) (arN 19).1 (arN 19).2=some (aB (aDU s)):=by rw[bSG.1,bSG.2,aSO,bOR];cases arL.find? fun p=>decide (s=p.1)with|none=>simp|some p=>simp
theorem cEQ (pat:Bool) (e:ExprD) (h:Con prog 281 [bG e,aD pat] (aD (good pat e))):Con prog 354 [bG e,.elt 1 [[aD pat]] 0 0] (aD (good pat e)):=by refine Con.oc func354 fun C o A=>?_;refine aA ?_;refine goC [{r:=aD (good pat e)}] ?_;exact rtC
theorem cEP (pat:Bool):∀ (n:Nat) (e:ExprD),bI e<n->bI e<=4194304->Con prog 281 [bG e,aD pat] (aD (good pat e)):=by intro n;induction n with|zero=>intro e h;omega|succ n ih=>intro e hn hv;have ag:=fL e;have hlen:=fI e.args;have O:=pL pat e;have ah:=mQ e.v (by omega);have E:=bZS e.v (by omega);have G:=cLO 354 [.elt 1 [[aD pat]] 0 0] (good pat) e.args (by omega) rfl fun x hx=>cEQ pat x (by have:=fA hx;exact ih x (by omega) (by omega));rw[<-xB]at G;refine Con.oc func281 fun C hC hM=>?_;refine bQ ?_;refine .seqJ (fun _:Unit=>{tm:=[(2,.ptr 2 0),(3,.ptr 3 0),(6,aD (eH e pat))],hp:=[(2,zQ e),(3,.cells 4 [aD pat])]}) (fun _=>¬e.kind=1) ?_ (fun A=>?_);{rintro-Z;rw[decide_eq_false Z,Bool.false_or]at O;rw[O];refine goX [{r:=aD (noneV e.v)},{r:=aD (kS pat e.args),us:=[3]}] fun K U=>?_;simp;(repeat first|refine ob ?_ |refine⟨by intros;exact aX rfl E,?_⟩|refine⟨by intros;exact⟨_,.cons (.closed rfl) (.cons (.clo (.cons (.ptr rfl (.cons (.closed rfl) .nil)) .nil)) .nil),G⟩,?_⟩);refine U _ ?_;refine .re ?_;refine .clos ?_ rfl;simp[Bool.and_assoc]};{clear E G;refine aK ?_;refine .cnd (fun h1=>?_) (fun h1=>?_);{have h1:e.kind=1:=(by simpa using h1);refine aA ?_;refine goC [{r:=aB (cF e.v)}] ?_;refine .re ?_;refine .clos ?_ rfl;rw[O,decide_eq_true h1];have:eH e pat=(decide (1<=e.v.kind)&&decide (e.v.kind<=4)&&decide (cF e.v=0)&&decide (e.args.length=0)&&decide (e.name=⟨#[]⟩)):=(by unfold eH;rw[if_pos h1]);rw[this];by_cases h0:e.args.length=0;{have aa:kS pat e.args=true:=(by rw[List.eq_nil_of_length_eq_zero h0];rfl);rw[aa];simp[Bool.and_assoc]};{have ab:¬e.args=[]:=(by intro e0;exact h0 (by rw[e0];rfl));simp[ab]}};have h1:¬e.kind=1:=(by simpa using h1);refine aA ?_;refine .cnd (fun o=>?_) (fun o=>?_);{have o:e.kind=2:=(by simpa using o);have hc:=bBO e.name (by omega);refine goC [{r:=aD (varB e.name)}] ?_;refine A _ () h1 ?_;have:eH e pat=(varB e.name&&decide (e.args.length=0)):=(by unfold eH;rw[if_neg h1,if_pos o]);rw[this];simp[Bool.and_assoc]};have o:¬e.kind=2:=(by simpa using o);refine aA ?_;refine .cnd (fun D=>?_) (fun D=>?_);{have D:e.kind=3:=(by simpa using D);refine aA ?_;refine A _ () h1 ?_;have:eH e pat=(pat&&decide (e.name=⟨#[]⟩)&&decide (e.args.length=0)):=(by unfold eH;rw[if_neg h1,if_neg o,if_pos D]);rw[this];simp[Bool.and_assoc]};have D:¬e.kind=3:=(by simpa using D);refine aA ?_;refine .cnd (fun I=>?_) (fun I=>?_);{have I:e.kind=4:=(by simpa using I);refine aA ?_;refine A _ () h1 ?_;have:eH e pat=(decide (e.name=⟨#[]⟩)&& !decide (e.args.length=1)&&decide (e.args.length<=16)):=(by unfold eH;rw[if_neg h1,if_neg o,if_neg D,if_pos I]);rw[this];simp[Bool.and_assoc]};have I:¬e.kind=4:=(by simpa using I);refine aA ?_;refine .cnd (fun J=>?_) (fun J=>?_);{have J:e.kind=5:=(by simpa using J);have hc:=bHY e.name (by omega);refine goC [{r:=aD (aWA e.name)}] ?_;refine A _ () h1 ?_;have:eH e pat=(aWA e.name&&decide (e.args.length<=8)):=(by unfold eH;rw[if_neg h1,if_neg o,if_neg D,if_neg I,if_pos J]);rw[this];simp[Bool.and_assoc]};have J:¬e.kind=5:=(by simpa using J);refine aA ?_;refine .cnd (fun L=>?_) (fun L=>?_);{have L:e.kind=6:=(by simpa using L);have hs:=xP 19 (by omega) e.name;have:eH e pat=(!pat&&decide (0<aDU e.name)&&decide ((e.args.length:Int)=aDU e.name)):=(by unfold eH;rw[if_neg h1,if_neg o,if_neg D,if_neg I,if_neg J,if_pos L]);rw[this]at A;clear this;rcases cEA e.name with⟨Y,W⟩|Y;{rw[W]at A;refine dZ [{r:=arX}] fun K U=>?_;simp[arX,Y];(repeat first|refine ob ?_ |refine⟨by intros;exact aX rfl bBA,?_⟩|refine⟨fun a W=>hs a W,?_⟩);refine U _ ?_;refine aA ?_;refine A _ () h1 ?_;simp};{generalize aDU e.name=av at Y A;refine dZ [{r:=arX}] fun K U=>?_;simp[arX,Y];(repeat first|refine ob ?_ |refine⟨by intros;exact aX rfl bBA,?_⟩|refine⟨fun a W=>hs a W,?_⟩);refine U _ ?_;refine aA ?_;refine A _ () h1 ?_;simp[Bool.and_assoc,eq_comm]}};have L:¬e.kind=6:=(by simpa using L);refine aA ?_;refine .cnd (fun M=>?_) (fun M=>?_);{have M:e.kind=7:=(by simpa using M);have hc:=aAR e.name (by omega);refine goC [{r:=aD (nameR e.name)}] ?_;refine A _ () h1 ?_;have:eH e pat=(!pat&&nameR e.name&&decide (e.args.length=1)):=(by unfold eH;rw[if_neg h1,if_neg o,if_neg D,if_neg I,if_neg J,if_neg L,if_pos M]);rw[this];simp[Bool.and_assoc]};have M:¬e.kind=7:=(by simpa using M);refine aA ?_;refine .cnd (fun S=>?_) (fun S=>?_);{have S:e.kind=8:=(by simpa using S);refine aA ?_;refine A _ () h1 ?_;have:eH e pat=(!pat&&decide (e.name=⟨#[]⟩)&&decide (e.args.length=3)):=(by unfold eH;rw[if_neg h1,if_neg o,if_neg D,if_neg I,if_neg J,if_neg L,if_neg M,if_pos S]);rw[this];simp[Bool.and_assoc]};have S:¬e.kind=8:=(by simpa using S);refine .skip ?_;refine A _ () h1 ?_;have:eH e pat=false:=(by unfold eH;rw[if_neg h1,if_neg o,if_neg D,if_neg I,if_neg J,if_neg L,if_neg M,if_neg S]);rw[this];simp}
theorem aZJ (pat:Bool) (e:ExprD) (h:bI e<=4194304):Con prog 281 [bG e,aD pat] (aD (good pat e)):=cEP pat _ e (Nat.lt_succ_self _) h
theorem cFD (e:ExprD) (h:bI e<=4194304):Con prog 251 [bG e] (aD (good false e)):=by have h1:=aZJ false e h;refine Con.oc func251 fun C o A=>?_;refine aA ?_;refine goC [{r:=aD (good false e)}] ?_;exact rtC
theorem aNC (e:ExprD) (h:bI e<=4194304):Con prog 211 [bG e] (aD (good true e)):=by have h1:=aZJ true e h;refine Con.oc func211 fun C o A=>?_;refine aA ?_;refine goC [{r:=aD (good true e)}] ?_;exact rtC
end Go.Al
end
section
open Go Go.Aw Go.Proofs
open Tryz
namespace Go.Al
set_option maxRecDepth 100000
instance:FT prog f319:=.n
instance:FT prog f321:=.n
instance:FT prog f254:=.n
instance:FT prog f268:=.n
instance:FT prog f266:=.n
instance:FT prog f270:=.n
instance:FT prog f199:=.m [(2,[1]),(0,[5]),(1,[1,2,5]),(0,[1,2,39]),(1,[1,2,39]),(0,[2,79]),(1,[2,79]),(1,[])]
attribute [local simp] bXO aDS aWB cFQ aDR aRT aR lL aZ uI
def cIR:ByteArray:=⟨#[109]⟩
def cKA (e:ExprD):AV:=.agg [aE cIR,uI,uI,uI,uI,.rd 4 [cFQ e]]
attribute [local simp] cKA
theorem bIC (e:ExprD) (h:bI e<=4194304):Con prog 319 [aWB e] (aB (cK e)):=by
 have D:=xI e;have A:=aNZ 210 cK [e] (by simp) (fun x o=>by simp at o;subst o;omega) (fun x o=>by simp at o;subst o;exact aTX _ x (Nat.lt_succ_self _) h);have hm:pH cK [e]=cK e:=by simp[pH]
 rw[hm]at A;simp only[dW,List.map_cons,List.map_nil]at A;refine Con.oc func319 fun C E G=>?_;refine aA ?_;refine goC [{r:=aB (cK e)}] ?_;exact rtC
theorem bHP (e:ExprD) (h:bI e<=4194304):Con prog 321 [aRT e] (aB (cK e)):=by
 have D:=xI e;have A:=bJL 319 cK [e] (by simp) (fun x o=>by simp at o;subst o;omega) (fun x o=>by simp at o;subst o;exact bIC x h);have hm:pH cK [e]=cK e:=by simp[pH]
 rw[hm]at A;simp only[aDS,List.map_cons,List.map_nil]at A;refine Con.oc func321 fun C E G=>?_;refine aA ?_;refine goC [{r:=aB (cK e)}] ?_;exact rtC
theorem bHT (e:ExprD) (h:bI e<=4194304):Con prog 254 [cKA e] (aB (cK e)):=by
 have D:=xI e;have A:=bJK 321 cK [e] (by simp) (fun x o=>by simp at o;subst o;omega) (fun x o=>by simp at o;subst o;exact bHP x h);have hm:pH cK [e]=cK e:=by simp[pH]
 rw[hm]at A;simp only[aDR,List.map_cons,List.map_nil]at A;have h1:=bEE 309;have E:=bEG 315;have G:=bEF 317;refine Con.oc func254 fun C I J=>?_;refine aA ?_;refine goE [{r:=aB 0},{r:=aB 0},{r:=aB 0},{r:=aB (cK e)}] ?_;refine .re ?_;refine .clos ?_ rfl;simp[kR];omega
theorem cOT (e:ExprD) (h:bI e<=4194304):Con prog 268 [aWB e] (aD (good true e)):=by
 have E:=bHY cIP (by decide);have o:aWA cIP=true:=by decide+kernel
 rw[o]at E;have A:=cHH 211 (good true) [e] (by simp) (fun x D=>by simp at D;subst D;exact aNC x h);have hm:([e]:List ExprD).all (good true)=good true e:=by simp
 rw[hm]at A;simp only[dW,List.map_cons,List.map_nil]at A;refine Con.oc func268 fun C G I=>?_;refine bQ ?_;refine .ct (by simp) ?_;refine .skip<| .ct (by simp) ?_;refine goC [{r:=aD true},{r:=aD (good true e)}] ?_;exact rtC
theorem cOS (e:ExprD) (h:bI e<=4194304):Con prog 266 [aRT e] (aD (good true e)):=by
 have E:=aAR cIQ (by decide);have o:nameR cIQ=true:=by decide+kernel
 rw[o]at E;have A:=cLM 268 (good true) [e] (by simp) (fun x D=>by simp at D;subst D;exact cOT x h);have hm:([e]:List ExprD).all (good true)=good true e:=by simp
 rw[hm]at A;simp only[aDS,List.map_cons,List.map_nil]at A;refine Con.oc func266 fun C G I=>?_;refine aA ?_;refine goC [{r:=aD true},{r:=aD (good true e)}] ?_;exact rtC
theorem bVS (e:ExprD):Con prog 270 [aRT e] (aD true):=by refine Con.oc func270 fun C o A=>?_;refine aK ?_;exact rtC
theorem bZR (e:ExprD) (h:bI e<=4194304):Con prog 199 [cKA e] (aB (if 64<cK e then 65 else if good true e=true then 0 else 4)):=by
 have L:=bHT e h;have K:=aAR cIR (by decide);have o:nameR cIR=true:=by decide+kernel
 rw[o]at K;have h1:=cHG 257;have M:=cHC 259;have O:=cHD 261;have S:=bJZ 264;have I:=bSI 266 (good true) [e] (by simp) (fun x A=>by simp at A;subst A;exact cOS x h);have hm:([e]:List ExprD).all (good true)=good true e:=by simp
 rw[hm]at I;have U:=bJZ 269;have J:=bSI 270 (fun _=>true) [e] (by simp) (fun x A=>bVS x);have D:([e]:List ExprD).all (fun _=>true)=true:=rfl;rw[D]at J;simp only[aDR,List.map_cons,List.map_nil]at I J;refine Con.oc func199 fun C W Y=>?_;refine aA ?_;refine goC [{r:=aB (cK e)}] ?_;refine .cnd (fun hk=>?_) (fun hk=>?_);{refine aA ?_;refine .re ?_;refine .clos ?_ rfl;rw[if_pos (by simp at hk;omega)];rfl};rw[if_neg (by simp at hk;omega)];refine goC [{r:=aD true},{r:=aD true},{r:=aD true},{r:=aD true},{r:=aD true},{r:=aD (good true e)}] ?_;refine .cnd (fun E=>?_) (fun E=>?_);{refine aA ?_;refine .re ?_;refine .clos ?_ rfl;have:good true e=false:=(by revert E;generalize good true e=g;cases g<;>simp);rw[this];rfl};have G:good true e=true:=by revert E;generalize good true e=g;cases g<;>simp
 rw[if_pos G];refine goC [{r:=aD true},{r:=aD true}] ?_;refine .cf (by simp) ?_;refine aA ?_;exact rtC
end Go.Al
end
