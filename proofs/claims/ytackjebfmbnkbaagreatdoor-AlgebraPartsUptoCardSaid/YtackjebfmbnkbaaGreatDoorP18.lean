/- How much a plan weighs; copies. -/
import Derived.Test.YtackjebfmbnkbaaGreatDoorP14
import Derived.Test.YtackjebfmbnkbaaGreatDoorP16
set_option linter.unusedSimpArgs false
set_option linter.unusedVariables false
set_option linter.unusedSectionVars false
section
open Go Go.Aw Go.Proofs
open Tryz
namespace Go.Al
set_option maxRecDepth 100000
instance:FT prog f38:=.n
instance:FT prog f32:=.n
instance:FT prog f39:=.n
instance:FT prog f26:=.n
instance:FT prog f23:=.n
attribute [local simp] aP aV
theorem cNJ {α β:Type} (f:α->β) (l:List α) (k:Nat) (h:k<l.length):(l.map f).take (k+1)=(l.map f).take k++[f l[k]]:=by simp_all [List.map_take,List.take_succ_eq_append_getElem,List.map_append]
theorem aYN {α β:Type} (f:α->β) (l:List α) (k:Nat) (h:¬k<l.length):(l.map f).take k=l.map f:=List.take_of_length_le (by simp;omega)
theorem bTK:∀ (n:Nat) (l:List ValD),aJ l<n->aJ l<=4194304->Con prog 38 [aO l] (aB (eO l)):=by intro n;induction n with|zero=>intro l h;omega|succ n O=>intro l Z hl;have hlen:=bJ l;have hle:=xX l;refine Con.oc func38 fun C hC hM=>?_;refine bQ ?_;refine .block<| .loopG (fun x:Nat×Nat=>{tm:=[(0,aO l),(3,aB x.2),(4,aB x.1)],hp:=[]}) (fun x=>x.1<=l.length/\eO l=vNs (l.drop x.1) x.2) (fun x=>l.length-x.1) (0,l.length) ⟨by omega,by simp[eO]⟩ (by simp) (fun x hk=>?_);obtain⟨k,m⟩:=x;obtain⟨E,A⟩:=hk;simp only at E A;have S:=bLF (l.drop k) m;refine aA ?_;refine .cnd (fun o=>?_) (fun o=>?_);{have D:k<l.length/\m<3000:=(by simp at o;omega);clear o;obtain⟨o,G⟩:=D;have M:=bFP l k m o;rw[if_pos G,cQO]at M;have hm:=bO (List.getElem_mem o);have U:=cM l[k];have hc:=O l[k].l (by omega) (by omega);have W:=xX l[k].l;have I:IntKind.i64.wrap ((l[k].s.size:Int)/64)=((l[k].s.size/64:Nat):Int):=(by rw[bH (by omega) (by omega)];omega);refine dZ [{r:=aB (eO l[k].l)}] fun K Y=>?_;simp[o,I];refine ck Y ?_;refine aA ?_;refine⟨(k+1,m+l[k].s.size/64+eO l[k].l),⟨by simp;omega,by rw[A,M];simp[eO,Nat.add_assoc]⟩,by simp;omega,?_⟩;have J:IntKind.i64.wrap ((m:Int)+(l[k].s.size:Int)/64)=((m+l[k].s.size/64:Nat):Int):=(by rw[bH (by omega) (by omega)];omega);have L:IntKind.i64.wrap (((m+l[k].s.size/64:Nat):Int)+(eO l[k].l:Int))=((m+l[k].s.size/64+eO l[k].l:Nat):Int):=(by rw[bH (by omega) (by omega)];omega);simp only[J,L];simp[aC k (by omega)]};refine .exit ?_;refine aA ?_;refine .re ?_;refine .clos ?_ rfl;rw[A];by_cases h:k<l.length;{rw[bFP l k m h,if_neg (by simp[h]at o;omega)];rfl};{rw[List.drop_eq_nil_of_le (by omega)];rfl}
theorem aPR (l:List ValD) (o:aJ l<=4194304):Con prog 38 [aO l] (aB (eO l)):=bTK _ l (Nat.lt_succ_self _) o
attribute [local simp] bK
def dW (l:List ExprD):AV:=.rd 9 (l.map fM)
attribute [simp] dW
theorem cFC:∀ (n:Nat) (l:List ExprD),aL l<n->aL l<=4194304->Con prog 32 [dW l] (aB (fD l)):=by intro n;induction n with|zero=>intro l h;omega|succ n O=>intro l hn hl;have hlen:=fI l;have hle:=aCQ l;refine Con.oc func32 fun C hC hM=>?_;refine bQ ?_;refine .block<| .loopG (fun x:Nat×Nat=>{tm:=[(0,dW l),(3,aB x.2),(4,aB x.1)],hp:=[]}) (fun x=>x.1<=l.length/\fD l=eNs (l.drop x.1) x.2) (fun x=>l.length-x.1) (0,l.length) ⟨by omega,by simp[fD]⟩ (by simp) (fun x hk=>?_);obtain⟨k,m⟩:=x;obtain⟨E,A⟩:=hk;simp only at E A;have S:=bOB (l.drop k) m;refine aA ?_;refine .cnd (fun o=>?_) (fun o=>?_);{have D:k<l.length/\m<1000:=(by simp at o;omega);clear o;obtain⟨o,G⟩:=D;have L:=bJE l k m o;rw[if_pos G,cRP]at L;have hm:=fA (List.getElem_mem o);have U:=fL l[k];have W:aJ [l[k].v]=aY l[k].v:=(by simp[aJ]);have Y:=O l[k].args (by omega) (by omega);have Z:=aCQ l[k].args;have M:=aPR [l[k].v] (by omega);simp only[aO,List.map_cons,List.map_nil,aV,dC,aB,aE]at M;have aa:=xX [l[k].v];refine dZ [{r:=aB (fD l[k].args)},{r:=aB (eO [l[k].v])}] fun K hK=>?_;simp[o];(repeat first|refine ob ?_ |refine⟨by intros;exact aX rfl Y,?_⟩|refine⟨by intros;exact eK rfl (by repeat(first|exact WkL.nil|refine WkL.cons (by first|exact Wk.refl _|exact Wk.nil _|exact Wk.own (WkR.refl _)) ?_)) M,?_⟩);refine hK _ ?_;refine aA ?_;refine⟨(k+1,m+(fD l[k].args+eO [l[k].v])),⟨by simp;omega,by rw[A,L];simp[fD]⟩,by simp;omega,?_⟩;have I:IntKind.i64.wrap ((m:Int)+(fD l[k].args:Int))=((m+fD l[k].args:Nat):Int):=(by rw[bH (by omega) (by omega)];omega);have J:IntKind.i64.wrap (((m+fD l[k].args:Nat):Int)+(eO [l[k].v]:Int))=((m+(fD l[k].args+eO [l[k].v]):Nat):Int):=(by rw[bH (by omega) (by omega)];omega);simp only[I,J];simp[aC k (by omega)]};refine .exit ?_;refine aA ?_;refine .re ?_;refine .clos ?_ rfl;rw[A];by_cases h:k<l.length;{rw[bJE l k m h,if_neg (by simp[h]at o;omega)];rfl};{rw[List.drop_eq_nil_of_le (by omega)];rfl}
theorem aZZ (l:List ExprD) (o:aL l<=4194304):Con prog 32 [dW l] (aB (fD l)):=cFC _ l (Nat.lt_succ_self _) o
def bG (e:ExprD):AV:=.agg [dC e.kind,aB e.line,aB e.col,aE e.name,dC e.v.kind,aB e.v.n,aE e.v.s,.rd 4 (e.v.l.map bA),.rd 9 (e.args.map fM)]
def aM (p:PlanD):AV:=.agg [dC p.op,aE p.rel,aE p.name,.rd 9 (p.args.map fM),.rd 1 (aZ p.aggs),.rd 6 (p.ins.map dN)]
attribute [local simp] bG aM cA
theorem bTE:∀ (n:Nat) (p:PlanD),bC p<n->bC p<=4194304->Con prog 39 [aM p] (aB (wN p)):=by intro n;induction n with|zero=>intro p h;omega|succ n M=>intro p hn hl;have hlen:=lT p.ins;have hle:=cAJ p;have O:=nB p;have S:=aCQ p.args;have U:=xZ p.aggs;have he:=aZZ p.args (by omega);refine Con.oc func39 fun C hC hM=>?_;refine aA ?_;refine goE [{r:=aB (fD p.args)}] ?_;refine aA ?_;refine .block ?_;have G:IntKind.i64.wrap (1+(fD p.args:Int))=((1+fD p.args:Nat):Int):=(by rw[bH (by omega) (by omega)];omega);have W:IntKind.i64.wrap (((1+fD p.args:Nat):Int)+(p.aggs.length:Int))=((1+fD p.args+p.aggs.length:Nat):Int):=(by rw[bH (by omega) (by omega)];omega);have A:IntKind.i64.wrap ((1+(fD p.args:Int))+(p.aggs.length:Int))=((1+fD p.args+p.aggs.length:Nat):Int):=(by rw[bH (by omega) (by omega)];omega);refine .loopG (fun x:Nat×Nat=>{tm:=[(1,.ptr 1 0),(3,aB x.2),(4,aB x.1)],hp:=[(1,.cells 57 [dC p.op,aE p.rel,aE p.name,.rd 9 (p.args.map fM),.rd 1 (aZ p.aggs),.rd 6 (p.ins.map dN)])]}) (fun x=>x.1<=p.ins.length/\wN p=wNs (p.ins.drop x.1) x.2) (fun x=>p.ins.length-x.1) (0,1+fD p.args+p.aggs.length) ⟨by omega,by simp[cNA]⟩ (by simp[G,A]) (fun x hk=>?_);obtain⟨k,m⟩:=x;obtain⟨I,D⟩:=hk;simp only at I D;have Y:=cAI (p.ins.drop k) m;refine aA ?_;refine .cnd (fun o=>?_) (fun o=>?_);{have E:k<p.ins.length/\m<300:=(by simp at o;omega);clear o;obtain⟨o,J⟩:=E;have L:=bFI p.ins k m o;rw[if_pos J]at L;have hm:=jU (List.getElem_mem o);have hc:=M p.ins[k] (by omega) (by omega);have Z:=cAJ p.ins[k];refine goX [{r:=aB (wN p.ins[k])}] fun K hK=>?_;simp[o];refine ck hK ?_;refine aA ?_;refine⟨(k+1,m+wN p.ins[k]),⟨by simp;omega,by rw[D,L]⟩,by simp;omega,?_⟩;have A:IntKind.i64.wrap ((m:Int)+(wN p.ins[k]:Int))=((m+wN p.ins[k]:Nat):Int):=(by rw[bH (by omega) (by omega)];omega);simp only[A];simp[aC k (by omega)]};refine .exit ?_;refine aA ?_;refine .re ?_;refine .clos ?_ rfl;rw[D];by_cases h:k<p.ins.length;{rw[bFI p.ins k m h,if_neg (by simp[h]at o;omega)];rfl};{rw[List.drop_eq_nil_of_le (by omega)];rfl}
theorem bLA (p:PlanD) (o:bC p<=4194304):Con prog 39 [aM p] (aB (wN p)):=bTE _ p (Nat.lt_succ_self _) o
attribute [local simp] bK
theorem bXY:∀ (n:Nat) (l:List ExprD),aL l<n->aL l<=4194304->Con prog 26 [dW l] (dW l):=by intro n;induction n with|zero=>intro l h;omega|succ n E=>intro l J L;have hlen:=fI l;refine Con.oc func26 fun C M O=>?_;refine bQ ?_;refine .block<| .loopG (fun k:Nat=>{tm:=[(0,dW l),(3,.own 35 9 ((l.map fM).take k)),(4,aB k)],hp:=[]}) (fun k=>k<=l.length) (fun k=>l.length-k) 0 (by omega) (by simp) (fun k hk=>?_);refine aA ?_;refine .cnd (fun o=>?_) (fun A=>?_);{have o:k<l.length:=(by simpa using o);have hm:=fA (List.getElem_mem o);have G:=fL l[k];have S:=E l[k].args (by omega) (by omega);refine goX [] fun K D=>?_;simp[o];refine ck D ?_;refine goX [{r:=dW l[k].args}] fun K D=>?_;simp[o];refine ck D ?_;have I:(List.take k (List.map fM l)).length<=4194304:=(by rw[List.length_take];omega);refine aK ?_;refine⟨k+1,by omega,by omega,?_⟩;rw[cNJ fM l k o];generalize List.take k (List.map fM l)=cur;simp[aC k (by omega)]};have A:¬k<l.length:=(by simpa using A);refine .exit ?_;refine aA ?_;refine .re ?_;rw[aYN fM l k A];exact .own
theorem aUA (l:List ExprD) (o:aL l<=4194304):Con prog 26 [dW l] (dW l):=bXY _ l (Nat.lt_succ_self _) o
attribute [local simp] cA
theorem cQQ:∀ (n:Nat) (p:PlanD),bC p<n->bC p<=4194304->Con prog 23 [aM p] (aM p):=by intro n;induction n with|zero=>intro p h;omega|succ n D=>intro p M O;have hlen:=lT p.ins;have E:=nB p;have G:=xZ p.aggs;have he:=aUA p.args (by omega);refine Con.oc func23 fun C S U=>?_;refine aA ?_;refine goE [{r:=dW p.args}] ?_;refine aA ?_;refine .block<| .loopG (fun k:Nat=>{tm:=[(1,.ptr 1 0),(2,.ptr 2 0),(3,.ptr 3 0),(4,aB k)],hp:=[(1,.cells 57 [dC p.op,aE p.rel,aE p.name,.rd 9 (p.args.map fM),.rd 1 (aZ p.aggs),.rd 6 (p.ins.map dN)]),(2,.cells 27 [dC 0,aE .empty,aE .empty,.val (.slice none 0 0),.val (.slice none 0 0),.val (.slice none 0 0)]),(3,.cells 27 [dC p.op,aE p.rel,aE p.name,.rd 9 (p.args.map fM),.rd 1 (aZ p.aggs),.own 27 6 ((p.ins.map dN).take k)])]}) (fun k=>k<=p.ins.length) (fun k=>p.ins.length-k) 0 (by omega) (by simp) (fun k hk=>?_);refine aA ?_;refine .cnd (fun o=>?_) (fun A=>?_);{have o:k<p.ins.length:=(by simpa using o);have hm:=jU (List.getElem_mem o);have W:=D p.ins[k] (by omega) (by omega);have I:(List.take k (List.map dN p.ins)).length<=4194304:=(by rw[List.length_take];omega);refine dZ [{r:=aM p.ins[k]}] fun K J=>?_;simp[o];refine ck J ?_;refine aA ?_;refine⟨k+1,by omega,by omega,?_⟩;rw[cNJ dN p.ins k o];generalize List.take k (List.map dN p.ins)=cur;simp[aC k (by omega)]};have A:¬k<p.ins.length:=(by simpa using A);refine .exit ?_;refine aA ?_;refine .re ?_;have L:(prog.types[27]'(by decide+kernel)).size=6:=(by kernel_rfl);refine .clos ?_ rfl;rw[aYN dN p.ins k A];simp only[L,kR];rfl
theorem aEC (p:PlanD) (o:bC p<=4194304):Con prog 23 [aM p] (aM p):=cQQ _ p (Nat.lt_succ_self _) o
end Go.Al
end
section
open Go Go.Aw Go.Proofs
open Tryz
namespace Go.Al
set_option maxRecDepth 100000
instance:FT prog f60:=.n
instance:FT prog f33:=.n
instance:FT prog f20:=.n
attribute [local simp] aP aV bG aM bK cA
def aR (l:List ByteArray):AV:=.rd 1 (aZ l)
attribute [local simp] aR aZ lL
def cNV:List ByteArray->List ByteArray->Bool
 |[],[]=>true
 |v::l,w::m=>decide (v=w)&&cNV l m
 |_,_=>false
def cCD (p:PlanD):Blk:=.cells 57 [dC p.op,aE p.rel,aE p.name,.rd 9 (p.args.map fM),.rd 1 (aZ p.aggs),.rd 6 (p.ins.map dN)]
attribute [local simp] cCD
end Go.Al
end
