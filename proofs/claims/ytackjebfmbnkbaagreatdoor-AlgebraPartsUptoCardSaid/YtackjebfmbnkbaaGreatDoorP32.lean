/- The program: may an expression be, may all. -/
import Derived.Test.YtackjebfmbnkbaaGreatDoorP26
import Derived.Test.YtackjebfmbnkbaaGreatDoorP25
import Derived.Test.YtackjebfmbnkbaaGreatDoorP27
import Derived.Test.YtackjebfmbnkbaaGreatDoorP21
import Derived.Test.YtackjebfmbnkbaaGreatDoorP31
set_option linter.unusedSimpArgs false
set_option linter.unusedVariables false
set_option linter.unusedSectionVars false
section
open Go Go.Aw Go.Proofs
open Tryz
namespace Go.Al
set_option maxRecDepth 100000
instance:FT prog f198:=.n
instance:FT prog f141:=.n
instance:FT prog f144:=.n
instance:FT prog f104:=.n
instance:FT prog f100:=.n
attribute [local simp] aP aV bG bK aR lL aZ
attribute [local simp] HB bB
def bSW (e:ExprD):AV:=if 64<cK e then .tup [aE ⟨#[]⟩,aB 65]else if good false e=true then .tup [aE ⟨(fF e).toArray⟩,aB 0]else .tup [aE ⟨#[]⟩,aB 4]
theorem bVT {s:ByteArray} (h:nameR s=true):0<s.size:=by unfold nameR oS at h;simp only[Bool.and_eq_true,Bool.not_eq_true',decide_eq_false_iff_not]at h;exact lQ h.1.1.1.1
theorem cDT {s:ByteArray} (h:aWA s=true):0<s.size:=by unfold aWA at h;split at h;{omega};{exact bVT h}
theorem bOI (l:List (List UInt8)):0<(lA l).length:=by simp[lA]
theorem bYG (n:ByteArray) (l:List (List UInt8)):0<(aOC n l).length:=by
 unfold aOC;repeat' split
 all_goals simp[lA]
 all_goals omega
theorem cIL {e:ExprD} (D:qF e) (o:good false e=true):fF e≠[]:=by
 have A:∀l:List UInt8,0<l.length->l≠[]:=fun l h e=>by rw[e]at h;simp at h
 refine A _ ?_;have U:=dQ e.name;rw[pL]at o;simp only[Bool.and_eq_true]at o;have h1:=o.1.1;rw[aYC]at D;have S:=List.length_pos_iff.2 (bQB e.v D.1);unfold eH at h1;rw[aOY];by_cases E:e.kind=1;{rw[if_pos E];exact S};rw[if_neg E]at h1|-;by_cases G:e.kind=2;{rw[if_pos G]at h1|-;simp only[Bool.and_eq_true]at h1;have:=cAQ h1.1;omega};rw[if_neg G]at h1|-;by_cases I:e.kind=3;{rw[if_pos I];simp};rw[if_neg I]at h1|-;by_cases J:e.kind=4;{rw[if_pos J];exact bOI _};rw[if_neg J]at h1|-;by_cases K:e.kind=5;{rw[if_pos K]at h1|-;simp only[Bool.and_eq_true]at h1;have:=cDT h1.1;split;{omega};{simp only[List.length_append];omega}};rw[if_neg K]at h1|-;by_cases L:e.kind=6;{rw[if_pos L];exact bYG _ _};rw[if_neg L]at h1|-;by_cases M:e.kind=7;{rw[if_pos M];simp only[List.length_append,List.length_cons,List.length_nil];omega};rw[if_neg M]at h1|-;by_cases O:e.kind=8;{rw[if_pos O];simp};rw[if_neg O]at h1;cases h1
theorem cMR (e:ExprD) (G:qF e) (h:bI e<=4194304):Con prog 198 [bG e] (bSW e):=by
 have J:=aTX _ e (Nat.lt_succ_self _) h;have L:=cFD e h;have A:=cIL G;unfold bSW;refine Con.oc func198 fun C M I=>?_;refine aA ?_;refine goC [{r:=aB (cK e)}] ?_;refine .cnd (fun h1=>?_) (fun h1=>?_);{have h1:64<cK e:=(by have:(64:Int)<cK e:=(by simpa using h1);omega);rw[if_pos h1];refine aA ?_;exact rtC};have h1:¬64<cK e:=by have:¬ (64:Int)<cK e:=(by simpa using h1);omega
 rw[if_neg h1];refine goC [{r:=aD (good false e)}] ?_;refine .cnd (fun o=>?_) (fun o=>?_);{have o:good false e=false:=(by simpa using o);rw[o];refine aA ?_;exact rtC};have o:good false e=true:=by simpa using o
 rw[if_pos o];have hw:=(cKS _ e (Nat.lt_succ_self _) h o G).2 false [] (by simp;omega);have D:=aMF 304 (.ptr 1000 0) rfl (fF e) (A o);rw[List.nil_append]at hw;simp only[bG,bK]at hw;refine aA ?_;refine .seq<| .renP I 14 1000 (by decide) (by simp) _ rfl ?_;refine .forget (s':={tm:=[(1,.ptr 1 0),(4,.ptr 1000 0)],hp:=[(1,.cells 35 (fM e)),(1000,bB 304 false [])]}) (by simp[pA,xL]) ?_;refine goX [{r:=.tup [],us:=[1000],bs:=HB 304 true (fF e)}] fun K E=>?_;simp;(repeat first|refine ob ?_ |refine⟨by intros;exact dS hw (.cons .refl (.cons .refl .nil)) rfl rfl,?_⟩);refine E _ ?_;refine goX [{r:=aE ⟨(fF e).toArray⟩,us:=[1000],bs:=[(1000,.cells 304 [.ptr 1000 0,.unk])]}] fun K E=>?_;simp;(repeat first|refine ob ?_ |refine⟨by intros;exact iR D (.cons .refl .nil) rfl rfl (by simp) (by simp) (by simp),?_⟩);refine E _ ?_;exact rtC
def bSX (e:ExprD):Int:=if 64<cK e then 65 else if good false e=true then 0 else 4
def cHW (e:ExprD):ByteArray:=if 64<cK e then⟨#[]⟩else if good false e=true then⟨(fF e).toArray⟩else⟨#[]⟩
theorem cHX (e:ExprD):bSW e=.tup [aE (cHW e),aB (bSX e)]:=by unfold bSW cHW bSX;split;{rfl};{split<;>rfl}
theorem cDM (pat:Bool) (e:ExprD) (D:qF e) (h:bI e<=4194304):Con prog 141 [bG e,aD pat] (aD (may pat e)):=by have h1:=cMR e D h;have E:=bZR e h;rw[cHX]at h1;refine Con.oc func141 fun C G I=>?_;refine aA ?_;refine goC [{r:=.tup [aE (cHW e),aB (bSX e)]}] ?_;cases pat with|false=>refine aA ?_;refine .ct (by simp) ?_;refine aA ?_;refine .re ?_;refine .clos ?_ rfl;unfold may bSX;by_cases A:64<cK e;{rw[if_pos A];simp;omega};{rw[if_neg A];have o:cK e<=64:=(by omega);cases good false e<;>simp[o]}|true=>refine aA ?_;refine .cf (by simp) ?_;refine aA ?_;refine .seq ?_;simp only[cKA,cFQ,bXO,uI,cIR,bK]at E;refine goC [{r:=aB (if 64<cK e then 65 else if good true e=true then 0 else 4)}] ?_;refine .re ?_;refine .clos ?_ rfl;unfold may;by_cases A:64<cK e;{rw[if_pos A];simp;omega};{rw[if_neg A];have o:cK e<=64:=(by omega);cases good true e<;>simp[o]}
theorem cLN (pat:Bool) (e:ExprD) (o:qF e) (h:bI e<=4194304):Con prog 144 [bG e,.elt 1 [[aD pat]] 0 0] (aD (!may pat e)):=by have h1:=cDM pat e o h;refine Con.oc func144 fun C A D=>?_;refine aA ?_;refine goC [{r:=aD (may pat e)}] ?_;exact rtC
theorem cPS (pat:Bool) (l:List ExprD) (o:kI l) (h:aL l<=4194304):Con prog 104 [dW l,aD pat] (aD (l.all (may pat))):=by have hlen:=fI l;have h1:=kB l (by omega) 144 [.elt 1 [[aD pat]] 0 0] rfl (fun e=>!may pat e) (fun e he=>cLN pat e (aAJ o e he) (by have:=fA he;omega));refine Con.oc func104 fun C D E=>?_;refine aA ?_;refine goX [{r:=aD (l.any fun e=>!may pat e),us:=[3]}] fun K A=>?_;simp;(repeat first|refine ob ?_ |refine⟨by intros;exact⟨_,.cons (.closed rfl) (.cons (.clo (.cons (.ptr rfl (.cons (.closed rfl) .nil)) .nil)) .nil),h1⟩,?_⟩);refine A _ ?_;refine .re ?_;refine .clos ?_ rfl;simp[aJB]
theorem bFM (s:ByteArray) (D:s.size<=4194000):Con prog 100 [aE s] (aD (varB s)):=by
 have o:bI (ExprD.mk 2 0 0 s (.mk 0 0 ⟨#[]⟩ []) [])<=4194304:=by have:(⟨#[]⟩:ByteArray).size=0:=rfl;simp[bI,aL,aY,aJ];omega
 have h1:=cDM false (ExprD.mk 2 0 0 s (.mk 0 0 ⟨#[]⟩ []) []) (by simp[qF,aEL,kI,ValD.n]) o;have hm:may false (ExprD.mk 2 0 0 s (.mk 0 0 ⟨#[]⟩ []) [])=varB s:=by simp[may,bAP,mM,pL,eH,kS,noneV,ValD.kind,ValD.n,ValD.s,ValD.l,ExprD.kind,ExprD.v,ExprD.args,ExprD.name]
 rw[hm]at h1;simp only[bG,bK]at h1;refine Con.oc func100 fun C E G=>?_;refine aA ?_;refine goX [{r:=aD (varB s)}] fun K A=>?_;simp;(repeat first|refine ob ?_ |refine⟨by intros;exact eK rfl (.cons (.agg (.cons (.refl _) (.cons (.refl _) (.cons (.refl _) (.cons (.refl _) (.cons (.refl _) (.cons (.refl _) (.cons (.refl _) (.cons (.nil 4) (.cons (.nil 9) .nil)))))))))) (.cons (.refl _) .nil)) h1,?_⟩);refine A _ ?_;exact rtC
end Go.Al
end
section
open Go Go.Aw Go.Proofs
open Tryz
namespace Go.Al
set_option maxRecDepth 100000
instance:FT prog f99:=.n
instance:FT prog f101:=.n
instance:FT prog f103:=.n
instance:FT prog f63:=.m [(4,[2,3]),(15872,[5,6,7,8,9]),(134217728,[5,19]),(1,[2,3,4,6,7,8,9,19]),(68719476736,[2,3,4,7,9,47]),(1,[2,3,4,7,9,47]),(34359738368,[2,3,4,84]),(1,[2,3,4,84]),(8,[2,3,4,120]),(1,[2,3,4,120]),(8,[2,4,124]),(1,[2,4,124]),(2048,[])]
attribute [local simp] cA aR lL aZ aM aLO rT xH aBK dW
def aWF (op:Int):Int:=if op=2 then 0 else if op=3 then 2 else if op=4 then 1 else if op=5\/op=7 then 1 else if op=6 then 1 else if op=8 then 1 else if op=9 then-1 else 0
def bDI (op:Int):Bool:=decide (op=2)||decide (op=4)
def aPE (op:Int):Bool:=decide (op=6)
def aPF (op:Int):Bool:=decide (op=2)||(decide (4<=op)&&decide (op<=8))
def aPG (op:Int):Bool:=decide (op=8)
theorem cOX (op:Int):Con prog 99 [dC op] (.tup [aB (aWF op),aD (bDI op),aD (aPE op),aD (aPF op),aD (aPG op)]):=by
 refine Con.oc func99 fun C Y Z=>?_;refine bQ ?_;refine .cnd (fun o=>?_) (fun o=>?_);{have o:op=2:=(by simpa using o);subst o;refine aA ?_;exact rtC};have o:¬op=2:=by simpa using o
 refine aA ?_;refine .cnd (fun G=>?_) (fun G=>?_);{have G:op=3:=(by simpa using G);subst G;refine aA ?_;exact rtC};have G:¬op=3:=by simpa using G
 refine aA ?_;refine .cnd (fun A=>?_) (fun A=>?_);{have A:op=4:=(by simpa using A);subst A;refine aA ?_;exact rtC};have A:¬op=4:=by simpa using A
 refine aA ?_;by_cases L:op=5;{subst L;refine .ct (by simp) ?_;refine .skip<| .ct (by simp) ?_;refine aA ?_;exact rtC};by_cases M:op=7;{subst M;refine .cf (by simp) ?_;refine aA ?_;refine .ct (by simp) ?_;refine aA ?_;exact rtC};refine .cnd (fun I=>?_) (fun I=>?_);{simp at I;exact absurd I L};refine aA ?_;refine .cnd (fun J=>?_) (fun J=>?_);{simp at J;exact absurd J M};refine aA ?_;refine .cnd (fun D=>?_) (fun D=>?_);{have D:op=6:=(by simpa using D);subst D;refine aA ?_;exact rtC};have D:¬op=6:=by simpa using D
 refine aA ?_;refine .cnd (fun E=>?_) (fun E=>?_);{have E:op=8:=(by simpa using E);subst E;refine aA ?_;exact rtC};have E:¬op=8:=by simpa using E
 refine aA ?_;refine .cnd (fun K=>?_) (fun K=>?_);{have K:op=9:=(by simpa using K);subst K;refine aA ?_;exact rtC};have K:¬op=9:=by simpa using K
 refine aA ?_;refine .re ?_;refine .clos ?_ rfl;have e1:aWF op=0:=by unfold aWF;simp[o,G,A,L,D,M,E,K]
 have O:bDI op=false:=by unfold bDI;simp[o,A]
 have S:aPE op=false:=by unfold aPE;simp[D]
 have U:aPF op=false:=by unfold aPF;simp[o];omega
 have W:aPG op=false:=by unfold aPG;simp[E]
 rw[e1,O,S,U,W];rfl
theorem cKM (s:ByteArray):has [⟨#[]⟩,rS,bLJ,aVM,aVN] s=aOE s:=by simp only[has,aOE,List.any_cons,List.any_nil,Bool.or_false,Bool.or_assoc];have e:∀a b:ByteArray,decide (a=b)=decide (b=a):=fun a b=>decide_eq_decide.2 ⟨Eq.symm,Eq.symm⟩;rw[e ⟨#[]⟩ s,e rS s,e bLJ s,e aVM s,e aVN s]
theorem cEZ (s:ByteArray):Con prog 101 [aE s] (aD (!aOE s)):=by have h1:=oE [⟨#[]⟩,rS,bLJ,aVM,aVN] s (by decide);refine Con.oc func101 fun C A D=>?_;refine aA ?_;refine goX [{r:=aD (has [⟨#[]⟩,rS,bLJ,aVM,aVN] s)}] fun K o=>?_;simp;(repeat first|refine ob ?_ |refine⟨by intros;exact eK rfl (by repeat(first|exact WkL.nil|refine WkL.cons (by first|exact Wk.refl _|exact Wk.nil _|exact Wk.own (WkR.refl _)) ?_)) h1,?_⟩);refine o _ ?_;refine .re ?_;refine .clos ?_ rfl;rw[cKM];rfl
theorem bNO:∀o a2 a3:Bool,(o&&(!a2&&a3)|| !o)= !(o&&(!a3||a2)):=by decide
theorem aRM:∀r a n b g c h d:Bool,((!r&& !a)||(r||a)&&(!n&& !b)||(r||a)&&(!r&& !a||(n||b))&&(!g&& !c)|| (r||a)&&(!r&& !a||(n||b))&&(!r&& !a||(r||a)&&(!n&& !b)||(g||c))&&(!h&& !d))= !((r||a)&&(n||b)&&(g||c)&&(h||d)):=by decide
theorem bBB:∀f x o n v g e:Bool,((f||x)&& !o||(!f&& !x||o)&&(n&& !v)||(!f&& !x||o)&&((f||x)&& !o||(!n||v))&&(g&& !e))= !((!(f||x)||o)&&(!n||v)&&(!g||e)):=by decide
theorem cEY (p:PlanD) (ins:List eL) (x:eL) (D:x∈ins):Con prog 103 [rT x,.elt 6 [dN p] 0 0,.elt 1 [[xH ins]] 0 0] (aD (!((x.bare==decide (p.op=9))&&(!decide (p.op=9)||decide (x.width=(ins.headD gC).width))))):=by
 have A:0<ins.length:=List.length_pos_of_mem D;obtain⟨a,r,o⟩:∃a r,ins=a::r:=List.exists_cons_of_length_pos A;subst o;refine Con.oc func103 fun C E G=>?_;refine aA ?_;refine vP ?_;refine .re ?_;refine .clos ?_ rfl;have e:(x.bare==decide (p.op=9))=decide (x.bare=decide (p.op=9)):=by rw[Bool.eq_iff_iff];simp
 rw[e];simp only[List.headD_cons,kR,aD];rw[bNO];rfl
theorem Con.clo0 {P:Program} {f g:FuncId} {x r:AV} (h:Con P f [x,.clo (.func g) []] r):Con P f [x,.val (.func (.func g) #[] #[])] r:=
 ⟨h.1,fun fz w vs A D o=>h.2 fz w vs A D (by
  simp only[HoldsL,Holds]at o|-
  obtain⟨v,E,e1,G,v2,J,I,rfl,rfl⟩:=o
  exact⟨v,E,e1,G,_,[],I,⟨#[],rfl,rfl⟩,rfl⟩)⟩
theorem aZB (o:Int) (n:Nat): (decide (o<1)||decide (9<o)|| decide (1<=o)&&decide (o<=9)&&(decide (0<=aWF o)&& !decide ((n:Int)=aWF o))|| !decide (o<1)&& !decide (9<o)&& (!decide (1<=o)|| !decide (o<=9)||(!decide (0<=aWF o)||decide ((n:Int)=aWF o)))&& (decide (aWF o<0)&&decide (n=0)))= !(decide (1<=o)&&decide (o<=9)&&(if o=9 then decide (0<n)else decide ((n:Int)=nIn o))):=by
 by_cases h1:o<1;{have:¬1<=o:=(by omega);simp[h1,this]};by_cases A:9<o;{have:¬o<=9:=(by omega);simp[A,this]};have D:1<=o:=by omega
 have E:o<=9:=by omega
 rcases(by omega:o=1\/o=2\/o=3\/o=4\/o=5\/o=6\/o=7\/o=8\/o=9)with rfl|rfl|rfl|rfl|rfl|rfl|rfl|rfl|rfl<;>simp[aWF,nIn];all_goals(rcases Nat.eq_zero_or_pos n with h|h<;>simp[h]<;>omega)
theorem cEX (p:PlanD) (ins:List eL) (hp:aL p.args<=4194304) (Z:kI p.args) (hn:p.name.size<=4194000) (O:ins.length<=4194304) (S:p.aggs.length<=4194304): Con prog 63 [aM p,xH ins] (aD (right p ins)):=by
 have hh:=cOX p.op;have hv:=bFM p.name hn;have ha:=fun b=>cPS b p.args Z hp;refine Con.oc func63 fun C hC hM=>?_;refine aA ?_;refine goC [{r:=.tup [aB (aWF p.op),aD (bDI p.op),aD (aPE p.op),aD (aPF p.op),aD (aPG p.op)]}] ?_;have ac:=Con.clo0 (xT p.aggs S 101 [] rfl (fun s=>!aOE s) (fun s _=>cEZ s));have G:=aMI ins O 103 [.elt 6 [dN p] 0 0,.elt 1 [[xH ins]] 0 0] rfl (fun x=>!((x.bare==decide (p.op=9))&&(!decide (p.op=9)||decide (x.width=(ins.headD gC).width)))) (fun x hx=>cEY p ins x hx);have W:decide (ins=[])=decide (ins.length=0):=decide_eq_decide.2 List.length_eq_zero_iff.symm;have el:decide ((p.aggs.length:Int)=(p.args.length:Int))=decide (p.aggs.length=p.args.length):=decide_eq_decide.2 (by omega);have Y:∀n:Nat,decide (0<n)= !decide (n=0):=fun n=>by by_cases h:n=0<;>simp[h];omega
 refine aA ?_;refine .cnd (fun h1=>?_) (fun h1=>?_);{rw[W,aZB]at h1;have hk:tS p ins.length=false:=(by have h:(!tS p ins.length)=true:=h1;simpa using h);refine aA ?_;refine .re ?_;refine .clos ?_ rfl;unfold right;rw[hk];rfl};rw[W,aZB]at h1;have hk:tS p ins.length=true:=by have h:(!tS p ins.length)=false:=h1;simpa using h
 refine aA ?_;refine .cnd (fun D=>?_) (fun D=>?_);{simp only[Y]at D;simp only[Bool.not_not]at D;rw[aRM]at D;have o:sG p=false:=(by have h:(!sG p)=true:=D;simpa using h);refine aA ?_;refine .re ?_;refine .clos ?_ rfl;unfold right;rw[hk,o];rfl};simp only[Y]at D;simp only[Bool.not_not]at D;rw[aRM]at D;have o:sG p=true:=by have h:(!sG p)=false:=D;simpa using h
 refine goC [{r:=aD (varB p.name)}] ?_;refine .cnd (fun J=>?_) (fun J=>?_);{rw[el,bBB]at J;have A:wC p=false:=(by have h:(!wC p)=true:=J;simpa using h);refine aA ?_;refine .re ?_;refine .clos ?_ rfl;unfold right;rw[hk,o,A];rfl};rw[el,bBB]at J;have A:wC p=true:=by have h:(!wC p)=false:=J;simpa using h
 refine goC [{r:=aD (p.aggs.any fun s=>!aOE s)}] ?_;refine .cnd (fun L=>?_) (fun L=>?_);{rw[<-List.not_all_eq_any_not]at L;have E:p.aggs.all aOE=false:=(by simpa using L);refine aA ?_;refine .re ?_;refine .clos ?_ rfl;unfold right;rw[hk,o,A,E];rfl};rw[<-List.not_all_eq_any_not]at L;have E:p.aggs.all aOE=true:=by simpa using L
 simp only[cA]at G;obtain⟨B,U⟩:∃B,B=ins.any fun x=>!((x.bare==decide (p.op=9))&&(!decide (p.op=9)||decide (x.width=(ins.headD gC).width))):=⟨_,rfl⟩;rw[<-U]at G;refine goX [{r:=aD B,us:=[2,3]}] fun K hK=>?_;simp;(repeat first|refine ob ?_ |refine⟨by intros;exact⟨_,.cons (.closed rfl) (.cons (.clo (.cons (.ptr rfl (.closed rfl)) (.cons (.ptr rfl (.closed rfl)) .nil))) .nil),G⟩,?_⟩);refine hK _ ?_;refine .cnd (fun M=>?_) (fun M=>?_);{rw[U,<-List.not_all_eq_any_not]at M;have I:aWE p ins=false:=(by have h:(!aWE p ins)=true:=M;simpa using h);refine aA ?_;refine .re ?_;refine .clos ?_ rfl;unfold right;rw[hk,o,A,E,I];rfl};rw[U,<-List.not_all_eq_any_not]at M;have I:aWE p ins=true:=by have h:(!aWE p ins)=false:=M;simpa using h
 refine .skip<| .seq ?_;have:=ha (aDI p.op);refine goC [{r:=aD (p.args.all (may (aDI p.op)))}] ?_;refine .re ?_;refine .clos ?_ rfl;unfold right;rw[hk,o,A,E,I];rfl
end Go.Al
end
section
open Go Go.Aw Go.Proofs
open Tryz
namespace Go.Al
set_option maxRecDepth 100000
instance:FT prog f62:=.n
instance:FT prog f35:=.n
instance:FT prog f64:=.n
attribute [local simp] aP aV bG bK zQ
attribute [local simp] cA aR lL aZ aM aLO rT xH aBK dW
theorem cLA:∀ (n:Nat) (p:PlanD) (m:Nat),bC p<n->bC p<=4194304->m<=4194304->m+bC p<=8388608->Con prog 35 [aM p,aB m] (aD (zS p m)):=by
 intro n;induction n with
  |zero=>intro p m h;omega
  |succ n D=>
   intro p m U hp hm E;have G:=nB p;have hlen:=lT p.ins;have I:m<=64-> ∀q∈p.ins,Con prog 62 [aM q,.elt 1 [[aB m]] 0 0] (aD (zS q (m+1))):=(by intro o q J;have L:=jU J;have h1:=D q (m+1) (by omega) (by omega) (by omega) (by omega);refine Con.oc func62 fun C M O=>?_;refine aA ?_;refine goX [{r:=aD (zS q (m+1))}] fun K A=>?_;simp[aC m (by omega)];refine ck A ?_;exact rtC);rw[cFX,aTZ];have S:m<=64->Con prog 61 [aBK p.ins,.clo (.func 62) [.elt 1 [[aB m]] 0 0]] (aD (p.ins.any fun q=>zS q (m+1))):=fun o=>
    aMJ p.ins (by omega) _ _ rfl (fun q=>zS q (m+1)) (I o)
   refine Con.oc func35 fun C M O=>?_;refine aA ?_;refine goX [{r:=aD (p.ins.any fun q=>zS q (m+1)),us:=[3]}] fun K A=>?_;simp;(repeat first|refine ob ?_ |refine⟨fun h=>by exact⟨[aBK p.ins,.clo (.func 62) [.elt 1 [[aB m]] 0 0]],.cons (.closed rfl) (.cons (.clo (.cons (.ptr rfl (.cons (.closed rfl) .nil)) .nil)) .nil),S (by omega)⟩,?_⟩);refine A _ ?_;refine .re ?_;refine .clos ?_ rfl;rw[show decide ((64:Int)<m)=decide (64<m)from decide_eq_decide.2 (by omega)];rfl
mutual
theorem bTI:∀ (e:ExprD) (acc:List ByteArray),(oF acc e).length<=acc.length+bI e| .mk kind _ _ name _ args,acc=>by have h1:=xW [] args;simp only[oF,bI];have o:=qO (bL [] args) (if kind=2 then add acc name else acc);have A:(if kind=2 then add acc name else acc).length<=acc.length+1:=(by split;{exact bSJ acc name};{omega});simp only[List.length_nil]at h1;omega
theorem xW:∀ (acc:List ByteArray) (l:List ExprD),(bL acc l).length<=acc.length+aL l
 |acc,[]=>by simp[bL]
 |acc,e::l=>by have h1:=bTI e acc;have o:=xW (oF acc e) l;simp only[bL,aL];omega
end
theorem cAL:∀ (n:Nat) (l:List ExprD),aL l<n->aL l<=4194304->Con prog 64 [dW l] (aR (bL [] l)):=by intro n;induction n with|zero=>intro l h;omega|succ n ih=>intro l hn hl;have hlen:=fI l;refine Con.oc func64 fun C hC hM=>?_;refine bQ ?_;refine .block<| .loopG (fun k:Nat=>{tm:=[(3,.own 9 1 (aZ (bL [] (l.take k)))),(8,.rd 9 (l.map fM)),(9,aB l.length),(10,aB k)],hp:=[]}) (fun k=>k<=l.length) (fun k=>l.length-k) 0 (by omega) (by simp[bL]) (fun k hk=>?_);have U:∀ (acc:List ByteArray) (l:List ExprD),(bL acc l).length<=acc.length+aL l:=xW;refine aA ?_;refine .seq<| .cnd (fun E=>?_) (fun W=>?_);{have E:k<l.length:=(by simpa using E);have D:=bFK [] l k E;have ad:=rM l k E;have hle:=pP l (k+1);have Y:=fL l[k];have Z:=U [] (l.take k);rw[bFL]at D;have hi:=ih l[k].args (by omega) (by omega);have J:=U [] l[k].args;generalize bL [] (l.take k)=acc at Z D|-;simp only[List.length_nil]at Z J;have aa:=oE acc l[k].name (by omega);refine goX [] fun K L=>?_;simp[E];refine ck L ?_;generalize l[k]=e at hi J aa D ad Y|-;have ae:(if e.kind=2 then add acc e.name else acc).length<=acc.length+1:=(by split;{exact bSJ acc e.name};{omega});obtain⟨o,M⟩:∃o,o=(if e.kind=2 then add acc e.name else acc):=⟨_,rfl⟩;rw[<-M]at D ae;refine .seqJ (fun _:Unit=>{tm:=[(3,.own 9 1 (aZ o)),(5,.ptr 5 0),(8,.rd 9 (l.map fM)),(9,aB l.length),(10,aB k)],hp:=[(5,zQ e)]}) (fun _=>True) ?_ (fun hJ=>?_);{rintro- -;obtain⟨v,hv⟩:∃v,v=bL [] e.args:=⟨_,rfl⟩;rw[<-hv]at hi J D;refine goC [{r:=aR v}] ?_;refine .block<| .loopG (fun i:Nat=>{tm:=[(3,.own 9 1 (aZ (cJ o (v.take i)))),(8,.rd 9 (l.map fM)),(9,aB l.length),(10,aB k),(31,aR v),(32,aB v.length),(33,aB i)],hp:=[]}) (fun i=>i<=v.length) (fun i=>v.length-i) 0 (by omega) (by simp[cJ]) (fun i aj=>?_);refine aA ?_;refine .seq<| .cnd (fun I=>?_) (fun ab=>?_);{have I:i<v.length:=(by simpa using I);have G:cJ o (v.take (i+1))=add (cJ o (v.take i)) v[i]:=(by rw[List.take_succ_eq_append_getElem I,qS];rfl);have ac:=qO (v.take i) o;rw[List.length_take]at ac;generalize cJ o (v.take i)=cur at ac G|-;have af:=oE cur v[i] (by omega);refine goX [] fun K L=>?_;simp[I];refine ck L ?_;refine goX [{r:=aD (has cur v[i])}] fun K L=>?_;simp;(repeat first|refine ob ?_ |refine⟨by intros;exact eK rfl (by repeat(first|exact WkL.nil|refine WkL.cons (by first|exact Wk.refl _|exact Wk.nil _|exact Wk.own (WkR.refl _)) ?_)) af,?_⟩);refine L _ ?_;refine .cnd (fun O=>?_) (fun O=>?_);{have O:has cur v[i]=false:=(by simpa using O);have A:add cur v[i]=cur++[v[i]]:=(by unfold add;rw[O];rfl);refine aK ?_;refine⟨i+1,by omega,by omega,?_⟩;rw[G,A];simp[aC i (by omega)]};have O:has cur v[i]=true:=(by simpa using O);have A:add cur v[i]=cur:=(by unfold add;rw[O];rfl);refine aA ?_;refine⟨i+1,by omega,by omega,?_⟩;rw[G,A];simp[aC i (by omega)]};have ab:¬i<v.length:=(by simpa using ab);rw[List.take_of_length_le (by omega),<-D];refine .exit ?_;refine aA ?_;refine⟨k+1,by omega,by omega,?_⟩;simp[aC k (by omega)]};{refine goX [{r:=aD (has acc e.name)}] fun K L=>?_;simp;(repeat first|refine ob ?_ |refine⟨fun _=>eK rfl (by repeat(first|exact WkL.nil|refine WkL.cons (by first|exact Wk.refl _|exact Wk.nil _|exact Wk.own (WkR.refl _)) ?_)) aa,?_⟩);refine L _ ?_;refine .cnd (fun S=>?_) (fun S=>?_);{have S:e.kind=2/\has acc e.name=false:=(by simpa using S);have A:o=acc++[e.name]:=(by rw[M,if_pos S.1];unfold add;rw[S.2];rfl);refine aA ?_;refine hJ _ () trivial ?_;rw[A];simp};have S:¬ (e.kind=2/\has acc e.name=false):=(by simpa using S);have A:o=acc:=(by rw[M];split;{next ak=>have:has acc e.name=true:=(by cases hh:has acc e.name<;>simp_all);unfold add;rw[if_pos this]};{rfl});refine .skip ?_;refine hJ _ () trivial ?_;rw[A];simp}};have W:¬k<l.length:=(by simpa using W);rw[List.take_of_length_le (by omega)];refine .exit ?_;refine aA ?_;refine .re ?_;exact .own
end Go.Al
end
