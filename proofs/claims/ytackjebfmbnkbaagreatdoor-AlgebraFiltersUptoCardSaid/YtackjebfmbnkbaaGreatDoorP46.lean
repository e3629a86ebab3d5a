/- What the arguments read as: plans. -/
import Derived.Test.YtackjebfmbnkbaaGreatDoorP07
import Derived.Test.YtackjebfmbnkbaaGreatDoorP44
import Derived.Test.YtackjebfmbnkbaaGreatDoorRows
import Derived.WalkKit
import Derived.ProofKit
import Derived.OpenShut
import Derived.JoinedCond
import Derived.Shelf.Vars
import Derived.Deep.DeepHandedRow
import Derived.Lib.LaidTab
import Derived.Lib.ItoaNum
import Derived.Lay
import GoSem.ClaimGoes
set_option linter.unusedSimpArgs false
set_option linter.unusedVariables false
set_option linter.unusedSectionVars false
section
open Go Go.Aw Go.Proofs
open Tryz
namespace Go.Al
theorem co9:prog.cellsOf 9=1:=by kernel_rfl
theorem coV:prog.cellsOf 33=4:=by kernel_rfl
theorem coE:prog.cellsOf 35=9:=by kernel_rfl
theorem coP:prog.cellsOf 57=6:=by kernel_rfl
theorem bulk_all {H:Type}:∀l:List (DataW H),YtackjebfmbnkbaaGreatDoor.Rows.uptoBulkAll l=(l.map YtackjebfmbnkbaaGreatDoor.Rows.uptoBulk).sum
 |[]=>by simp[YtackjebfmbnkbaaGreatDoor.Rows.uptoBulkAll]
 |d::l=>by simp[YtackjebfmbnkbaaGreatDoor.Rows.uptoBulkAll,bulk_all l]
theorem bulk_ok (H:Type):uF (YtackjebfmbnkbaaGreatDoor.Rows.uptoBulk (H:=H)):=by refine⟨fun d=>?_,fun e s=>?_,fun l=>?_,fun l=>?_⟩;{cases d with|lit l=>cases l<;>simp[YtackjebfmbnkbaaGreatDoor.Rows.uptoBulk]|_=>simp[YtackjebfmbnkbaaGreatDoor.Rows.uptoBulk]};{simp only[YtackjebfmbnkbaaGreatDoor.Rows.uptoBulk,bulk_all];omega};{simp only[YtackjebfmbnkbaaGreatDoor.Rows.uptoBulk,bulk_all];omega};{simp[YtackjebfmbnkbaaGreatDoor.Rows.uptoBulk]}
section
variable {H:Type} {enc:TypeId×Value->H} {w:World} {bulk:DataW H->Nat}
theorem cQM {n:Int} (h:(Lit.int .i64 n).wf=true):inR n:=by simp[Lit.wf,IntKind.min,IntKind.max,IntKind.bits,IntKind.signed]at h;unfold inR;omega
theorem cCM (N:Nat):Opens enc prog w bulk N 3 (fun n:Int=>[aB n]) (fun n _=>inR n):=(Opens.int underlying3).map id (fun _=>rfl) (fun _ _ h=>cQM h)
theorem cOF (N:Nat):Opens enc prog w bulk N 2 (fun n:Int=>[aB n]) (fun n _=>inR n):=(Opens.int underlying2).map id (fun _=>rfl) (fun _ _ h=>cQM h)
theorem cCI (N:Nat):Opens enc prog w bulk N 5 (fun n:Int=>[dC n]) (fun n _=>True):=(Opens.int underlying5).map id (fun _=>rfl) (fun _ _ _=>trivial)
theorem yK (o:uF bulk) (N:Nat):Opens enc prog w bulk N 9 (fun s:ByteArray=>[aE s]) (fun s b=>s.size+1<=b):=.string o underlying9
theorem cOE (o:uF bulk):∀N,Opens enc prog w bulk N 30 (fun p:Int×Int=>[aB p.1,aB p.2]) (fun _ _=>True):=
 Opens.structAll o underlying30 (by kernel_rfl) (fun N=>.cons rfl (m:=1) (by kernel_rfl) (cCM N) (.cons rfl (m:=1) (by kernel_rfl) (cCM N) .nil (by simp)) (by simp))
  (ok':=fun _ _=>True) (fun _ _ _ _ _=>trivial)|>fun h N=>(h N).map (fun x=>(x.1,x.2.1)) (fun _=>rfl) (fun _ _ _=>trivial)
theorem bTP {l:List ByteArray}:∀ {b:Nat},SumOK (fun s b=>s.size+1<=b) l b->nM l<=b:=by induction l with|nil=>intro b h;exact Nat.zero_le _|cons x l o=>intro b ⟨D,E,h1,G,A,I⟩;have:=o A;simp only[nM,List.map_cons,List.sum_cons]at this|-;omega
theorem cCJ (o:uF bulk):∀N,Opens enc prog w bulk N 24 (fun l:List ByteArray=>[.rd 1 (aZ l)]) (fun l b=>nM l<=b):=fun N=>
 (Opens.sliceAll o underlying24 (by rw[co9];decide) (fun _=>by rw[co9];rfl) (yK o) N).map id (fun _=>by rw[co9];rfl) (fun x b h=>bTP h)
theorem bTF {l:List ValD}:∀ {b:Nat},SumOK (fun e b=>aY e<=b/\rng e) l b->aJ l<b/\iM l:=by induction l with|nil=>intro b h;exact⟨h,by rw[iM];trivial⟩|cons x l o=>intro b ⟨E,G,h1,A,D,I⟩;have:=o D;simp only[aJ,iM];exact⟨by omega,A.2,this.2⟩
def mkV (x:Int×Int×ByteArray×List ValD×Unit):ValD:=.mk x.1 x.2.1 x.2.2.1 x.2.2.2.1
theorem bQX (o:uF bulk):∀N,Opens enc prog w bulk N 33 bA (fun e b=>aY e<=b/\rng e)/\Opens enc prog w bulk N 31 (fun l:List ValD=>[.rd 4 (l.map bA)]) (fun l b=>aJ l<b/\iM l):=by intro N;induction N with|zero=>exact⟨Opens.zero,Opens.zero⟩|succ N A=>refine⟨?_,?_⟩;{refine(Opens.struct o underlying33 (by kernel_rfl) (.cons rfl (m:=1) (by kernel_rfl) (cCI N) (.cons rfl (m:=1) (by kernel_rfl) (cOF N) (.cons rfl (m:=1) (by kernel_rfl) (yK o N) (.cons rfl (m:=1) (by kernel_rfl) A.2 .nil (by simp)) (by simp)) (by simp)) (by simp)) (ok':=fun x b=>aY (mkV x)<=b/\rng (mkV x)) (fun x b G h o=>?_)).map mkV (fun x=>?_) (fun _ _ h=>h);{obtain⟨I,J,h1,⟨K,L,D,⟨M,O,S,⟨U,W,E,_,Y⟩,Z⟩,e3⟩,e1⟩:=h;rw[cM];simp only[mkV,ValD.s,ValD.l,ValD.n,rng];exact⟨by omega,D,E.2⟩};{rw[aV];rfl}};{exact(Opens.slice o underlying31 (by rw[coV];decide) (fun e=>by rw[coV];exact cFO e) A.1).map id (fun _=>by rw[coV];rfl) (fun x b h=>bTF h)}
theorem bXK {l:List ExprD}:∀ {b:Nat},SumOK (fun e b=>bI e+1<=b/\sE e) l b->aL l<b/\iE l:=by induction l with|nil=>intro b h;exact⟨h,by rw[iE];trivial⟩|cons x l o=>intro b ⟨E,G,h1,A,D,I⟩;have:=o D;simp only[aL,iE];exact⟨by omega,A.2,this.2⟩
def mkE (x:Int×(Int×Int)×ByteArray×ValD×List ExprD×Unit):ExprD:=.mk x.1 x.2.1.1 x.2.1.2 x.2.2.1 x.2.2.2.1 x.2.2.2.2.1
theorem aRQ (o:uF bulk):∀N,Opens enc prog w bulk N 35 fM (fun e b=>bI e+1<=b/\sE e)/\Opens enc prog w bulk N 23 (fun l:List ExprD=>[.rd 9 (l.map fM)]) (fun l b=>aL l<b/\iE l):=by intro N;induction N with|zero=>exact⟨Opens.zero,Opens.zero⟩|succ N A=>refine⟨?_,?_⟩;{refine(Opens.struct o underlying35 (by kernel_rfl) (.cons rfl (m:=1) (by kernel_rfl) (cCI N) (.cons rfl (m:=2) (by kernel_rfl) (cOE o N) (.cons rfl (m:=1) (by kernel_rfl) (yK o N) (.cons rfl (m:=4) (by kernel_rfl) (bQX o N).1 (.cons rfl (m:=1) (by kernel_rfl) A.2 .nil (by simp)) (by simp)) (by simp)) (by simp)) (by simp)) (ok':=fun x b=>bI (mkE x)+1<=b/\sE (mkE x)) (fun x b I h o=>?_)).map mkE (fun x=>?_) (fun _ _ h=>h);{obtain⟨J,K,h1,⟨L,M,O,⟨S,U,W,⟨Y,Z,D,⟨b9,E,G,_,e5⟩,e4⟩,e3⟩,e2⟩,e1⟩:=h;rw[fL,bCH];simp only[mkE,ExprD.args,ExprD.name,ExprD.v];exact⟨by omega,D.2,G.2⟩};{rw[bK];simp only[mkE,ExprD.kind,ExprD.line,ExprD.col,ExprD.name,ExprD.v,ExprD.args,aV];rfl}};{exact(Opens.slice o underlying23 (by rw[coE];decide) (fun e=>by rw[coE];exact cFR e) A.1).map id (fun _=>by rw[coE];rfl) (fun x b h=>bXK h)}
theorem bUV {l:List PlanD}:∀ {b:Nat},SumOK (fun e b=>bC e+3<=b/\iK e) l b->eG l<b/\oL l:=by induction l with|nil=>intro b h;exact⟨h,by rw[oL];trivial⟩|cons x l o=>intro b ⟨E,G,h1,A,D,I⟩;have:=o D;simp only[eG,oL];exact⟨by omega,A.2,this.2⟩
theorem cJB (p:PlanD):iK p↔(iE p.args/\oL p.ins):=by cases p;rw[iK];rfl
def mkP (x:Int×ByteArray×ByteArray×List ExprD×List ByteArray×List PlanD×Unit):PlanD:=.mk x.1 x.2.1 x.2.2.1 x.2.2.2.1 x.2.2.2.2.1 x.2.2.2.2.2.1
theorem cCL (o:uF bulk):∀N,Opens enc prog w bulk N 57 dN (fun e b=>bC e+3<=b/\iK e)/\Opens enc prog w bulk N 55 (fun l:List PlanD=>[.rd 6 (l.map dN)]) (fun l b=>eG l<b/\oL l):=by intro N;induction N with|zero=>exact⟨Opens.zero,Opens.zero⟩|succ N D=>refine⟨?_,?_⟩;{refine(Opens.struct o underlying57 (by kernel_rfl) (.cons rfl (m:=1) (by kernel_rfl) (cCI N) (.cons rfl (m:=1) (by kernel_rfl) (yK o N) (.cons rfl (m:=1) (by kernel_rfl) (yK o N) (.cons rfl (m:=1) (by kernel_rfl) (aRQ o N).2 (.cons rfl (m:=1) (by kernel_rfl) (cCJ o N) (.cons rfl (m:=1) (by kernel_rfl) D.2 .nil (by simp)) (by simp)) (by simp)) (by simp)) (by simp)) (by simp)) (ok':=fun x b=>bC (mkP x)+3<=b/\iK (mkP x)) (fun x b K h o=>?_)).map mkP (fun x=>?_) (fun _ _ h=>h);{obtain⟨L,M,h1,⟨O,S,U,⟨W,Y,Z,⟨b7,b8,E,⟨b9,G,h9,⟨I,J,A,_,e6⟩,e5⟩,e4⟩,e3⟩,e2⟩,e1⟩:=h;rw[nB,cJB];simp only[mkP,PlanD.ins,PlanD.aggs,PlanD.rel,PlanD.name,PlanD.args];exact⟨by omega,E.2,A.2⟩};{rw[cA];rfl}};{exact(Opens.slice o underlying55 (by rw[coP];decide) (fun e=>by rw[coP];exact cFP e) D.1).map id (fun _=>by rw[coP];rfl) (fun x b h=>bUV h)}
theorem planX_enc (p:PlanD):aM p=.agg (dN p):=by rw[cA];rfl
def OkP (p:PlanD) (b:Nat):Prop:=bC p+3<=b/\iK p
def OkR (l:List eM) (b:Nat):Prop:=l.length<b/\ ∀r∈l,iM r.2/\aJ r.2<=b
theorem cPK:prog.cellsOf 41=2:=by kernel_rfl
theorem cEU {l:List eM}:∀ {b:Nat},SumOK (fun(e:eM) b=>1<=b/\iM e.2/\aJ e.2<=b) l b->OkR l b:=by induction l with|nil=>intro b h;exact⟨h,by simp⟩|cons x l D=>intro b ⟨G,I,h1,A,E,J⟩;obtain⟨i1,i2⟩:=D E;refine⟨by simp only[List.length_cons];omega,fun r o=>?_⟩;rcases List.mem_cons.1 o with rfl|o;{exact⟨A.2.1,by have:=A.2.2;omega⟩};{exact⟨(i2 r o).1,by have:=(i2 r o).2;omega⟩}
theorem cOD (o:uF bulk):∀N,Opens enc prog w bulk N 41 aFK (fun e b=>1<=b/\iM e.2/\aJ e.2<=b):=
 Opens.structAll o underlying41 (by kernel_rfl) (fun N=>.cons rfl (m:=1) (by kernel_rfl) (yK o N) (.cons rfl (m:=1) (by kernel_rfl) (bQX o N).2 .nil (by simp)) (by simp))
  (ok':=fun x b=>1<=b/\iM x.2.1/\aJ x.2.1<=b) (fun x b D h o=>by
   obtain⟨E,G,h1,⟨I,J,A,_,K⟩,e1⟩:=h
   exact⟨by omega,A.2,by omega⟩)|>fun h N=>(h N).map (fun x=>((x.1,x.2.1):eM)) (fun _=>rfl) (fun _ _ h=>h)
theorem cJJ (o:uF bulk):∀N,Opens enc prog w bulk N 37 (fun l:List eM=>[cN l]) OkR:=fun N=>
 (Opens.sliceAll o underlying37 (by rw[cPK];decide) (fun e=>by rw[cPK];rfl) (cOD o) N).map id (fun _=>by rw[cPK];rfl) (fun x b h=>cEU h)
theorem aCI (A:uF bulk) {β:Type} {ts:List TypeId} {o:β->List AV} {ok':β->Nat->Prop} (h:OpensA enc prog w bulk ts o ok'):OpensA enc prog w bulk (57::ts) (fun x:PlanD×β=>.agg (dN x.1)::o x.2) (jB OkP ok'):=
 OpensA.cons (e1:=fun p=>.agg (dN p)) (Opens.argAgg underlying57 (fun N=>(cCL A N).1)) h
theorem aHI (A:uF bulk) {β:Type} {ts:List TypeId} {o:β->List AV} {ok':β->Nat->Prop} (h:OpensA enc prog w bulk ts o ok'):OpensA enc prog w bulk (37::ts) (fun x:List eM×β=>cN x.1::o x.2) (jB OkR ok'):=
 OpensA.cons (e1:=fun p=>cN p) (Opens.argSlice underlying37 (fun N=>cJJ A N)) h
theorem ops_joins (o:uF bulk):OpensA enc prog w bulk [57,57,57,37] (fun x:PlanD×PlanD×PlanD×List eM×Unit=>[.agg (dN x.1),.agg (dN x.2.1),.agg (dN x.2.2.1),cN x.2.2.2.1]) (jB OkP (jB OkP (jB OkP (jB OkR (fun _ _=>True))))):=
 aCI o (aCI o (aCI o (aHI o .nil)))
end
end Go.Al
end
section
namespace Go.Al
open Go Go.ChangeShapes Go.WideShapes Go.ChangeAt Go.RowKit Go.Aw Go.Proofs Go.Proofs.YtackjebfmbnkbaaGreatDoor
abbrev laidL:List (String×DataW Unit):=[("math/bits.deBruijn32tab",Rows.laid_math_bits_deBruijn32tab),("math/bits.deBruijn64tab",Rows.laid_math_bits_deBruijn64tab),("internal/strconv.uint64pow10",Rows.laid_internal_strconv_uint64pow10),("unicode/utf8.acceptRanges",Rows.laid_unicode_utf8_acceptRanges),("strconv.ErrRange",Rows.laid_strconv_ErrRange),("strconv.ErrSyntax",Rows.laid_strconv_ErrSyntax),("unicode/utf8.first",Rows.laid_unicode_utf8_first)]
theorem ownK:ownKnob Tryz.prog.godebug=none:=by kernel_rfl
theorem laidOut:laidOutB Tryz.prog=true:=by kernel_rfl
theorem rowed:mapsRowed Tryz.prog=true:=by kernel_rfl
theorem full:aEG Tryz.prog=true:=by kernel_rfl
theorem at0:((begin Tryz.prog (fun _ _=>0) default).world.heap[0]?).bind Obj.row?=some (#[.int .i64 0],3):=by kernel_rfl
theorem cKE (W:World) (h:W.ShapedOpen Tryz.prog):∃o,W.heap[0]? =some o/\ ∃m t f,o=.cells #[.int .i64 m] t f:=by obtain⟨m,hm⟩:=cell_of_shapedOpen_int (g:=0) (t:=3) (k:=.i64) h (of_decide_eq_true (by kernel_rfl)) at0 rfl (by kernel_rfl) (by kernel_rfl) Tryz.underlying3;obtain⟨cs,A,D,_⟩:=h.1 0 _ _ (of_decide_eq_true (by kernel_rfl)) at0;refine⟨_,A,m,3,(0,0),?_⟩;have h1:cs.size=1:=D;simp[World.cell?,A,h1]at hm;congr 1;apply Array.ext;{simp[h1]};{intro i G E;have:i=0:=(by simp at E;omega);subst this;simpa using hm}
theorem bVR:(laidL.filter fun x=>x.2.handleName?.isSome)=[]:=by kernel_rfl
theorem bOQ {W:World} {n:String} {g:Nat} {cs:Array Value} (A:W.var? Tryz.prog n=some cs) (E:Tryz.prog.globalNamed n=some g):∃t f,W.heap[g]? =some (.cells cs t f):=by unfold World.var? at A;rw[E,Option.bind_some]at A;cases D:W.heap[g]? with|none=>rw[D]at A;cases A|some o=>rw[D]at A;cases o with|cells c t f=>simp only[Option.some.injEq]at A;subst A;exact⟨t,f,rfl⟩|_=>cases A
theorem bBT (W:World) (h:laidMetH Tryz.prog laidL W):(∃o,W.heap[3]? =some o/\ ∃t f,o=.cells (Al.pow10s.map fun z=>Value.int .u64 z).toArray t f)/\ (∃o,W.heap[4]? =some o/\ ∃a p t f,o=.cells #[.iface a p] t f)/\(∃o,W.heap[5]? =some o/\ ∃a p t f,o=.cells #[.iface a p] t f):=by
 have hL:laidMet Tryz.prog laidL W:=by unfold laidMetH at h;rw[bVR]at h;exact h
 obtain⟨ps,A,_⟩:=hL;obtain⟨g1,t1,ah,M,p1,q1,_,_,_,_,A,_⟩:=A;obtain⟨g2,t2,ai,O,p2,q2,_,_,_,_,A,_⟩:=A;obtain⟨g,t,cs,fuel,p,q,hg,ht,J,hd,A,_⟩:=A;obtain⟨g4,t4,al,S,p4,q4,_,_,_,_,A,_⟩:=A;obtain⟨g5,t5,U,D,p5,q5,K,Y,E,Z,A,_⟩:=A;obtain⟨g6,t6,aa,G,p6,q6,L,ab,I,ac,A,_⟩:=A;obtain rfl:g=3:=Option.some.inj (hg.symm.trans (show Tryz.prog.globalNamed _=some 3 by kernel_rfl));obtain rfl:g5=5:=Option.some.inj (K.symm.trans (show Tryz.prog.globalNamed _=some 5 by kernel_rfl));obtain rfl:g6=4:=Option.some.inj (L.symm.trans (show Tryz.prog.globalNamed _=some 4 by kernel_rfl));obtain rfl:t=430:=Option.some.inj (ht.symm.trans (show(Tryz.prog.globals[3]?).map (·.type)=some 430 by kernel_rfl));obtain rfl:t5=288:=Option.some.inj (Y.symm.trans (show(Tryz.prog.globals[5]?).map (·.type)=some 288 by kernel_rfl));obtain rfl:t6=288:=Option.some.inj (ab.symm.trans (show(Tryz.prog.globals[4]?).map (·.type)=some 288 by kernel_rfl));have ad:DataW.trod (fun _=>()) Tryz.prog W 0 (fun _=>true) false fuel 430 cs.toList=some (Lib.tabData .u64 Lib.pow10Tab,p):=hd;have ae:=Lib.cells_of_tab (n:=20) (e:=192) (show Tryz.prog.underlying 430=some (.array 20 192) by kernel_rfl) (show Tryz.prog.underlying 192=some (.int .u64) by kernel_rfl) (by kernel_rfl) (by kernel_rfl) ad;obtain⟨_,u5,v5,e5,_⟩:=iface_of_trod Tryz.underlying288 (show DataW.trod (fun _=>()) Tryz.prog W 0 (fun _=>true) false D 288 U.toList=some (.iface _ _,p5)from Z);obtain⟨_,u6,v6,e6,_⟩:=iface_of_trod Tryz.underlying288 (show DataW.trod (fun _=>()) Tryz.prog W 0 (fun _=>true) false G 288 aa.toList=some (.iface _ _,p6)from ac);obtain⟨ta,fa,ha⟩:=bOQ J hg;obtain⟨tb,fb,hb⟩:=bOQ E K;obtain⟨tc,fc,hc⟩:=bOQ I L;refine⟨⟨_,ha,ta,fa,?_⟩,⟨_,hc,u6,v6,tc,fc,?_⟩,⟨_,hb,u5,v5,tb,fb,?_⟩⟩;{congr 1;exact Array.toList_inj.1 ae};{congr 1;exact Array.toList_inj.1 e6};{congr 1;exact Array.toList_inj.1 e5}
theorem gl (W:World) (h:W.ShapedOpen Tryz.prog) (A:laidMetH Tryz.prog laidL W):GLok (frz W):=by obtain⟨a,b,c⟩:=bBT W A;refine⟨fun x o=>?_,⟨fun _ _ _ h=>(by cases h),fun _ _ h=>by cases h⟩⟩;rcases List.mem_cons.1 o with rfl|o;{exact cKE W h};rcases List.mem_cons.1 o with rfl|o;{exact a};rcases List.mem_cons.1 o with rfl|o;{exact b};{obtain rfl:=List.mem_singleton.1 o;exact c}
noncomputable abbrev laidWorld (os:Os):World:=World.laidAll Tryz.prog os laidL
def plan0:Value:=.agg #[.int .u8 0,.string .empty,.string .empty,.slice none 0 0,.slice none 0 0,.slice none 0 0]
def data0 {H:Type}:DataW H:=.agg [.lit (.int .u8 0),.lit (.string []),.lit (.string []),.nil,.nil,.nil]
theorem laid_met (os:Os) (args:Array Value):laidMet Tryz.prog laidL ((laidWorld os).forCall (fun _ _=>0) ⟨#[],args,[]⟩).memory:=laidMet_laidAll args (by kernel_rfl) (by kernel_rfl)
theorem laid_shaped (os:Os) (args:Array Value):((laidWorld os).forCall (fun _ _=>0) ⟨#[],args,[]⟩).Shaped Tryz.prog:=World.shaped_of_ZipB (by kernel_rfl) (by kernel_rfl)
theorem wit {H:Type} {enc:TypeId×Value->H} {C:Checked} {os:Os} {f:FuncId} {fn:Func} {s:OpenSpec} {conds:List PathCond} {apart:Bool} {laid:List (String×DataW Unit)} (w0:World) (args:Array Value) (D:w0.os=os) (E:(w0.forCall (fun _ _=>0) ⟨#[],args,[]⟩).Shaped C.prog) (o:Input.okWideB C.prog (w0.forCall (fun _ _=>0) ⟨#[],args,[]⟩) f ⟨#[],args,[]⟩=true) (A:s.preRow enc C.prog fn conds apart laid (w0.forCall (fun _ _=>0) ⟨#[],args,[]⟩).memory args): ∃ (w:World) (tape:Tape) (i:Input),w.os=os/\(w.forCall tape i).Shaped C.prog/\i.vars=[]/\Input.okWide C.prog (w.forCall tape i) .any w.heap.size f i/\ s.preRow enc C.prog fn conds apart laid (w.forCall tape i).memory i.args/\({}:Assume).holds C.prog (lone (Frame.enter C.prog f i.args .normal) [] (w.forCall tape i)):=
 ⟨w0,fun _ _=>0,⟨#[],args,[]⟩,D,E,(Input.okWide_of_okWideB (base:=0) o).1,(Input.okWide_of_okWideB o).2,A,by simp[Assume.holds]⟩
theorem bRD:Tryz.prog.funcs.any Func.goes=false:=by kernel_rfl
theorem goes_none (f:FuncId):Tryz.prog.goes f=false:=by unfold Program.goes;rw[bRD,Bool.and_false,Bool.or_false,List.any_eq_false];intro g _ h;cases o:Tryz.prog.funcs[g]? with|none=>rw[o]at h;cases h|some fn=>rw[o,Option.any_some]at h;have:=Array.any_eq_false'.1 bRD fn (Array.mem_of_getElem? o);exact this h
end Go.Al
end
