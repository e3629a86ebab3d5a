/- What more laws of plans ask. -/
import Derived.Test.YtackjebfmbnkbaaGreatDoorP44
import Derived.Test.YtackjebfmbnkbaaGreatDoorP46
set_option linter.unusedSimpArgs false
set_option linter.unusedVariables false
set_option linter.unusedSectionVars false
section
namespace Go.Al
open Go.Aw Go
theorem bRC:(⟨#[]⟩:ByteArray).size=0:=rfl
theorem aGT {R:eD} {p q:PlanD} (h:(aI R p).2=0) (o:q∈p.ins):(aI R q).2=0:=by rw[lC]at h;by_cases c:(fK (p.ins.map (aI R))).2=0;{exact(aBV c).1 _ (List.mem_map_of_mem o)};{rw[if_neg c]at h;exact absurd h c}
theorem aQT {ps:List ExprD} {o:List ValD} (hm:(bR eB ps o []).2=true):∀ {l:Rows},o∈l->((bL [] ps).map fun n=>zV n (bR eB ps o []).1)∈jN ps l|x::l,h=>by simp only[jN];rcases List.mem_cons.1 h with rfl|h;{rw[if_pos hm];simp};{have:=aQT hm h;split;{exact List.mem_cons_of_mem _ this};{exact this}}
theorem aIB {R:eD} {n:Nat} {p:PlanD} (o:Fit n p) (g:Good R n p) (A:(aI R p).2=0):∀r∈(aI R p).1.2,nC r:=fun r D=>by have h:=(g.tab A).2.1 r D;have hw:=g.wle;have:=o.w;exact okVals.row ⟨h.1,by omega⟩
end Go.Al
end
section
open Go Go.Aw Go.Proofs
open Tryz
namespace Go.Al
section
variable {H:Type} {enc:TypeId×Value->H} {w:World} {bulk:DataW H->Nat}
def OkS (s:ByteArray) (b:Nat):Prop:=s.size+1<=b
def OkE (e:ExprD) (b:Nat):Prop:=bI e+1<=b/\sE e
def cRZ (l:List ExprD) (b:Nat):Prop:=aL l<b/\iE l
theorem cJN (A:uF bulk) {β:Type} {ts:List TypeId} {o:β->List AV} {ok':β->Nat->Prop} (h:OpensA enc prog w bulk ts o ok'):OpensA enc prog w bulk (9::ts) (fun x:ByteArray×β=>aE x.1::o x.2) (jB OkS ok'):=
 OpensA.cons (e1:=fun p=>aE p) (Opens.argString underlying9 (fun N=>yK A N)) h
theorem cCT (A:uF bulk) {β:Type} {ts:List TypeId} {o:β->List AV} {ok':β->Nat->Prop} (h:OpensA enc prog w bulk ts o ok'):OpensA enc prog w bulk (23::ts) (fun x:List ExprD×β=>dW x.1::o x.2) (jB cRZ ok'):=
 OpensA.cons (e1:=fun p=>dW p) (Opens.argSlice underlying23 (fun N=>(aRQ A N).2)) h
theorem bRA (A:uF bulk) {β:Type} {ts:List TypeId} {o:β->List AV} {ok':β->Nat->Prop} (h:OpensA enc prog w bulk ts o ok'):OpensA enc prog w bulk (35::ts) (fun x:ExprD×β=>.agg (fM x.1)::o x.2) (jB OkE ok'):=
 OpensA.cons (e1:=fun p=>.agg (fM p)) (Opens.argAgg underlying35 (fun N=>(aRQ A N).1)) h
theorem ops_parts (o:uF bulk):OpensA enc prog w bulk [57,9,23,37] (fun x:PlanD×ByteArray×List ExprD×List eM×Unit=>[.agg (dN x.1),aE x.2.1,dW x.2.2.1,cN x.2.2.2.1]) (jB OkP (jB OkS (jB cRZ (jB OkR (fun _ _=>True))))):=
 aCI o (cJN o (cCT o (aHI o .nil)))
theorem ops_more (o:uF bulk):OpensA enc prog w bulk [57,37,37] (fun x:PlanD×List eM×List eM×Unit=>[.agg (dN x.1),cN x.2.1,cN x.2.2.1]) (jB OkP (jB OkR (jB OkR (fun _ _=>True)))):=
 aCI o (aHI o (aHI o .nil))
theorem ops_filters (o:uF bulk):OpensA enc prog w bulk [57,35,35,37] (fun x:PlanD×ExprD×ExprD×List eM×Unit=>[.agg (dN x.1),.agg (fM x.2.1),.agg (fM x.2.2.1),cN x.2.2.2.1]) (jB OkP (jB OkE (jB OkE (jB OkR (fun _ _=>True))))):=
 aCI o (bRA o (bRA o (aHI o .nil)))
end
theorem exprX_enc (e:ExprD):bG e=.agg (fM e):=by rw[bK];rfl
def expr0:Value:=.agg #[.int .u8 0,.int .i64 0,.int .i64 0,.string .empty,.int .u8 0,.int .i64 0,.string .empty,.slice none 0 0,.slice none 0 0]
def dataE {H:Type}:DataW H:=.agg [.lit (.int .u8 0),.agg [.lit (.int .i64 0),.lit (.int .i64 0)],.lit (.string []),.agg [.lit (.int .u8 0),.lit (.int .i64 0),.lit (.string []),.nil],.nil]
end Go.Al
end
