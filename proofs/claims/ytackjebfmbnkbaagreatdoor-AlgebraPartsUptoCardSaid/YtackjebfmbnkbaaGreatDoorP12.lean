/- Tables of a function's regions, computed out of its code; steps of a proof that find their own way. -/
import Derived.Test.YtackjebfmbnkbaaGreatDoorP11
import Derived.Test.YtackjebfmbnkbaaGreatDoorP09
set_option linter.unusedSimpArgs false
set_option linter.unusedVariables false
set_option linter.unusedSectionVars false
section
namespace Go.Aw
def opdU:Operand->Nat
 | .tmp t=>1<<<t
 |_=>0
def opU (o:Oper):Nat:=o.op.operands.toList.foldl (fun m x=>m|||opdU x) 0
def cRU (m:Nat):Option Nat->Nat
 |some d=>if m.testBit d then m ^^^ (1<<<d)else m
 |none=>m
def regU (o:Nat) (l:List Oper):Nat:=l.foldr (fun x m=>cRU m x.dst|||opU x) o
def atI (i:Nat):List (Nat×Nat)->Nat
 |[]=>0
 |(j,o)::r=>if i=j then o else atI i r
def itL (g:Nat->Nat×List (Nat×Nat)):Nat->Nat->Nat×List (Nat×Nat)
 |0,L=>g L
 |n+1,L=>let q:=g L;if q.1|||L=L then(L,q.2)else itL g n (q.1|||L)
def lv (A D:Nat):Code->Nat->List (Nat×Nat)->Nat×List (Nat×Nat)
 | .seq a b,o,ex=>let r:=lv A D b o ex;let q:=lv A D a r.1 ex;(q.1,q.2++r.2)
 | .region k ops _,o,_=>(regU o ops.toList,[(k,o)])
 | .cond c a b,o,ex=>let q:=lv A D a o ex;let r:=lv A D b o ex;(q.1|||r.1|||opdU c,q.2++r.2)
 | .block i a,o,ex=>lv A D a o ((i,o)::ex)
 | .exit i,_,ex=>(atI i ex,[])
 | .loop a,_,ex=>itL (fun L=>lv A D a L ex) 20 0
 | .scope a,o,ex=>lv A D a o ex
 | .rangeFunc f ps a b,o,ex=>let r:=lv A D b 0 ex;let q:=lv A D a r.1 ex;(ps.toList.foldl (fun m t=>cRU m (some t)) q.1|||o|||opdU f,q.2++r.2)
 | .ret,_,_=>(A,[])
 | .goto _,_,_=>(D,[])
 |_,o,_=>(o,[])
def cGL:Nat->Nat->Nat->List Nat
 |0,_,_=>[]
 |n+1,i,m=>if m% 2=1 then i::cGL n (i+1) (m/2)else cGL n (i+1) (m/2)
def cQV (f:Func):Nat:=f.results.toList.foldl (fun m r=>m|||(match r with| .tmp t=>1<<<t| .cell t _=>1<<<t)) 0
def resT (f:Func):Nat:=f.results.toList.foldl (fun m r=>m|||(match r with| .tmp t=>1<<<t| .cell _ _=>0)) 0
def cEG (d:Nat) (o:Oper):Bool:=match o.op with
 | .call c=>(match c.callee,c.args.toList with
  | .builtin .append,.tmp t::_=>t==d
  |_,_=>false)
 |_=>false
def cRK (d:Nat) (o:Oper):Bool:=match o.op with
 | .assign (.tmp t)=>t==d
 | .store _ _ (.tmp t)=>t==d
 | .mapUpdate _ _ _ (.tmp t)=>t==d
 |_=>false
def cRJ (A d:Nat) (o:Oper):Bool:=match o.op,o.dst with
 | .assign (.tmp t),some e=>t==d&&A.testBit e
 |_,_=>false
def tkO (P:Program) (A:Nat) (ops:List Oper) (o:Oper):Bool:=match o.op,o.dst with
 | .assign _,_=>true
 | .store _ _ _,_=>true
 | .move _,some d=>ops.any (cEG d)||ops.any (cRK d)
 | .load t _,some d=>(match nU P t with|some false=>ops.any (cRJ A d)||ops.any (cEG d)|_=>false)
 | .lookup _ _ _ false,some d=>ops.any (cEG d)
 |_,_=>false
def cNW (P:Program) (f:Func) (x:Nat×Nat):Option (Nat×List Nat×List ROp):=
 match lN P (hU f x.1) ((hU f x.1).toList.map (tkO P (resT f) (hU f x.1).toList)) (hU f x.1).toList with
  |some (r::l)=>some (x.1,cGL f.ntmps 0 x.2,r::l)
  |_=>none
def cGU (P:Program) (f:Func):List (Nat×List Nat×List ROp):=match f.body with
 |some c=>(lv (cQV f) ((1<<<f.ntmps)-1) c (cQV f) []).2.filterMap (cNW P f)
 |none=>[]
def zK (i:Nat):List (Nat×List Nat×List ROp)->Option (List Nat×List ROp)
 |[]=>none
 |(k,x)::r=>cond (k==i) (some x) (zK i r)
class FT (P:Program) (f:Func) where
 tab:List (Nat×List Nat×List ROp)
 ok:∀i x,zK i tab=some x-> ∃tks,lN P (hU f i) tks (hU f i).toList=some x.2
theorem aSI {i k:Nat} {y x:List Nat×List ROp} {l:List (Nat×List Nat×List ROp)} (h:zK i ((k,y)::l)=some x):(k=i/\y=x)\/zK i l=some x:=by simp only[zK]at h;by_cases e:k=i;{subst e;simp at h;exact .inl ⟨rfl,h⟩};{rw[show(k==i)=false by simpa using e,cond_false]at h;exact .inr h}
theorem aSH {P:Program} {f:Func} {i:Nat} {x:List Nat×List ROp}:∀l:List (Nat×Nat),zK i (l.filterMap (cNW P f))=some x-> ∃D,lN P (hU f i) D (hU f i).toList=some x.2
 |[],h=>by cases h
 |(k,o)::l,h=>by rw[List.filterMap_cons]at h;split at h;{exact aSH l h};{rename_i y A;unfold cNW at A;split at A;{rename_i r m hm;cases A;rcases aSI h with⟨rfl,rfl⟩|h;{exact⟨_,hm⟩};{exact aSH l h}};{cases A}}
theorem cGT {P:Program} {f:Func} {i:Nat} {x:List Nat×List ROp} (h:zK i (cGU P f)=some x):∃o,lN P (hU f i) o (hU f i).toList=some x.2:=by unfold cGU at h;split at h;{exact aSH _ h};{cases h}
abbrev FT.n {P:Program} {f:Func} {tab:List (Nat×List Nat×List ROp)} (h:cGU P f=tab:=by conv=>lhs;cbv):FT P f:=⟨tab,fun _ _ e=>cGT (by rw[h];exact e)⟩
def bTB:List (Nat×Nat×List Nat)->List (List ROp)->List (Nat×List Nat×List ROp)
 |(k,_,l)::t,L::o=>(k,l,L)::bTB t o
 |_,_=>[]
theorem bBL {P:Program} {f:Func} {i:Nat} {x:List Nat×List ROp}:∀ {t:List (Nat×Nat×List Nat)} {o:List (List ROp)},yA P f t=some o->zK i (bTB t o)=some x-> ∃A,lN P (hU f i) A (hU f i).toList=some x.2
 |[],_,_,h=>by simp[bTB,zK]at h
 |_::_,[],_,h=>by simp[bTB,zK]at h
 |(k,G,l)::t,L::o,h,D=>by simp only[yA]at h;split at h;{rename_i I J h1 E;cases h;rcases aSI D with⟨rfl,rfl⟩|D;{exact⟨_,h1⟩};{exact bBL E D}};{cases h}
abbrev FT.m {P:Program} {f:Func} (ts:List (Nat×List Nat)) {tab:List (Nat×Nat×List Nat)} {L:List (List ROp)} (h1:mkT 0 [] ts=tab:=by conv=>lhs;cbv) (o:yA P f tab=some L:=by conv=>lhs;cbv):FT P f:=⟨bTB tab L,fun _ _ e=>bBL o e⟩
abbrev FT.l {P:Program} {f:Func} {tab:List (Nat×Nat×List Nat)} {L:List (List ROp)} (o:yA P f tab=some L:=by conv=>lhs;cbv):FT P f:=⟨bTB tab L,fun _ _ e=>bBL o e⟩
variable {P:Program} {C:Ctx} {f:Func} {ops:Array Oper} [GL]
variable {p q q2 q3:Prop} {id:Nat} {live:List Nat} {Q:Exit->AS->Prop} {s s':AS} {L:List ROp}
def Wy (P:Program) (L:List ROp) (s:AS) (live:List Nat) (Q:Exit->AS->Prop) (p:Prop):Prop:=∀R:List Res,(∀K:AS->Prop,(∀s',Q .normal s'->K s')->kW P L (cT L R) s [] [] fun s' _=>K (iO live s'))->p
def WyD (P:Program) (L:List ROp) (s:AS) (live:List Nat) (Q:Exit->AS->Prop) (p:Prop):Prop:=∀R:List Res,(∀K:AS->Prop,(∀s',Q .normal s'->K s')->kW P L (cT L R) s [] [] fun s' I=>jH (aKL L []) I 0=true/\K (iO live s'))->p
theorem cOY {d:Bool} (t:AWp P C (.region id ops d) Q s->p:=by(intro k;(repeat first|refine AWp.seq ?_ |refine AWp.block ?_ |refine AWp.skip ?_ |refine AWpR.seq ?_ |refine AWpM.sq ?_ |refine AWpM.block ?_);exact k)) (A:C.N=f.ntmps:=by assumption) (G:FT P f:=by infer_instance) (D:zK id G.tab=some (live,L):=by rfl) (E:hU f id=ops:=by kernel_rfl) (o:fZ f.ntmps L=true:=by kernel_rfl) (I:d=false:=by rfl):Wy P L s live Q p:=fun R h=>by subst E I;obtain⟨J,K⟩:=G.ok _ _ D;exact t (AWp.regK0 live _ L R K (by rw[A];exact o) h)
theorem cER {d:Bool} (t:AWp P C (.region id ops d) Q s->p:=by(intro k;(repeat first|refine AWp.seq ?_ |refine AWp.block ?_ |refine AWp.skip ?_ |refine AWpR.seq ?_ |refine AWpM.sq ?_ |refine AWpM.block ?_);exact k)) (E:C.N=f.ntmps:=by assumption) (G:FT P f:=by infer_instance) (I:zK id G.tab=some (live,L):=by rfl) (J:hU f id=ops:=by kernel_rfl) (A:fZ f.ntmps L=true:=by kernel_rfl) (K:d=true:=by rfl) (o:uB L 0=true:=by kernel_rfl) (D:zT (aKL L []) L (aKL L [])=true:=by kernel_rfl) (hm:P.follows .mixedOrders=true:=by kernel_rfl):WyD P L s live Q p:=fun R h=>by subst J K;obtain⟨M,O⟩:=G.ok _ _ I;exact t (AWp.regKL hm _ live _ L R O (by rw[E];exact A) o D h)
theorem goX (R:List Res) (h:∀K:AS->Prop,(∀s',Q .normal s'->K s')->kW P L (cT L R) s [] [] fun s' _=>K (iO live s')) (w:Wy P L s live Q p:=by exact cOY):p:=w R h
theorem dZ (R:List Res) (h:∀K:AS->Prop,(∀s',Q .normal s'->K s')->kW P L (cT L R) s [] [] fun s' I=>jH (aKL L []) I 0=true/\K (iO live s')) (w:WyD P L s live Q p:=by exact cER):p:=w R h
theorem aA (h:Q .normal s') (w:Wy P L s live Q p:=by exact cOY) (o:∀K:AS->Prop,K s'->kW P L (cT L []) s [] [] fun s' _=>K (iO live s'):=by
 (intro K A;simp(maxSteps:=2000000);(repeat refine⟨by first|omega|(intros;omega)|assumption|(intros;exact aQB (by assumption)),?_⟩);exact A)):p:=w [] fun K A=>o K (A _ h)
theorem vP (h:Q .normal s') (w:WyD P L s live Q p:=by exact cER) (o:∀K:AS->Prop,K s'->kW P L (cT L []) s [] [] fun s' I=>jH (aKL L []) I 0=true/\K (iO live s'):=by
 (intro K A;simp(maxSteps:=2000000);(repeat refine ob ?_);exact A)):p:=w [] fun K A=>o K (A _ h)
theorem goC (R:List Res) (h:Q .normal s') (w:Wy P L s live Q p:=by exact cOY) (o:∀K:AS->Prop,K s'->kW P L (cT L R) s [] [] fun s' _=>K (iO live s'):=by
 (intro K A;simp(maxSteps:=2000000);(repeat first|refine ob ?_ |refine co (by assumption) ?_ |refine⟨by intros;exact aX rfl (by assumption),?_⟩);exact A)):p:=w R fun K A=>o K (A _ h)
theorem goE (R:List Res) (h:Q .normal s') (w:WyD P L s live Q p:=by exact cER) (o:∀K:AS->Prop,K s'->kW P L (cT L R) s [] [] fun s' I=>jH (aKL L []) I 0=true/\K (iO live s'):=by
 (intro K A;simp(maxSteps:=2000000);(repeat first|refine ob ?_ |refine co (by assumption) ?_ |refine⟨by intros;exact aX rfl (by assumption),?_⟩);exact A)):p:=w R fun K A=>o K (A _ h)
structure Bx (q:Prop):Prop where
 h:q
theorem aK {p q:Prop} (h:q) (t:Bx q->p:=by(intro k;refine aA ?_;refine aA ?_;exact k.h)):p:=t ⟨h⟩
theorem bQ {p q:Prop} (h:q) (t:Bx q->p:=by(intro k;refine aA ?_;refine aA ?_;refine aA ?_;exact k.h)):p:=t ⟨h⟩
theorem cES {p q:Prop} (h:q) (t:Bx q->p:=by(intro k;refine aA ?_;refine aA ?_;refine aA ?_;refine aA ?_;exact k.h)):p:=t ⟨h⟩
theorem rtC {c:Code} {Q:Exit->AS->Prop} {s:AS} {o:List ResultVar} {r:AV} {l:List AV} (A:Q .ret s=((Exit.ret=Exit.normal\/Exit.ret=Exit.ret)/\Ends P o r s):=by rfl) (D:jF P s o=some l:=by rfl) (E:hdR c=true:=by rfl) (h:Rsv (lk s.hp) (kR l) r:=by exact .closed rfl):AWp P C c Q s:=AWp.re h A D E
end Go.Aw
end
section
namespace Go.Al
open Go.Aw
def pow10s:List Int:=(List.range 20).map fun i=>((10 ^ i:Nat):Int)
class DR where
 p:Prop
instance drF:DR:=⟨False⟩
instance [DR]:GL:={dr:=DR.p,need:=[(0,fun o=>∃m t f,o=.cells #[.int .i64 m] t f),(3,fun o=>∃t f,o=.cells (pow10s.map fun z=>Value.int .u64 z).toArray t f),
 (4,fun o=>∃a p t f,o=.cells #[.iface a p] t f),(5,fun o=>∃a p t f,o=.cells #[.iface a p] t f)]}
instance [DR]:NB:=⟨rfl⟩
def aB (n:Int):AV:=.val (.int .i64 n)
def dC (n:Int):AV:=.val (.int .u8 n)
def aE (s:ByteArray):AV:=.val (.string s)
def aD (b:Bool):AV:=.val (.bool b)
attribute [simp] aB dC aE aD
mutual
theorem zH (l:List Nat):∀x:AV,noref x=true->within l x=true
 | .unk,_| .val _,_| .rd ..,_| .fx ..,_| .own ..,_| .elt ..,_| .rmap ..,_| .kset ..,_=>by rfl
 | .ptr ..,h| .vec ..,h| .mapr _,h=>by simp_all
 | .agg x,h| .tup x,h| .clo _ x,h=>by simp only[noref]at h;simp only[within,aN l x h]
 | .ifc _ x,h=>by simp only[noref]at h;simp only[within,zH l x h]
theorem aN (l:List Nat):∀x:List AV,aW x=true->bD l x=true
 |[],_=>by rfl
 |x::xs,h=>by simp only[aW,Bool.and_eq_true]at h;simp only[bD,zH l x h.1,aN l xs h.2,Bool.and_self]
end
inductive ValD where
 |mk (kind n:Int) (s:ByteArray) (l:List ValD)
namespace ValD
def kind:ValD->Int| .mk k _ _ _=>k
def n:ValD->Int| .mk _ k _ _=>k
def s:ValD->ByteArray| .mk _ _ k _=>k
def l:ValD->List ValD| .mk _ _ _ k=>k
end ValD
mutual
def bA:ValD->List AV
 | .mk kind n s l=>[dC kind,aB n,aE s,.rd 4 (bRV l)]
def bRV:List ValD->List (List AV)
 |[]=>[]
 |e::l=>bA e::bRV l
end
theorem bAG:∀l,bRV l=l.map bA
 |[]=>by rfl
 |e::l=>by simp only[bRV,List.map_cons,bAG l]
theorem aV (v:ValD):bA v=[dC v.kind,aB v.n,aE v.s,.rd 4 (v.l.map bA)]:=by cases v;simp only[bA,bAG,ValD.kind,ValD.n,ValD.s,ValD.l]
@[simp] theorem cFO (v:ValD):(bA v).length=4:=by rw[aV];rfl
def encVX (v:ValD):AV:=.agg (bA v)
def aO (l:List ValD):AV:=.rd 4 (l.map bA)
mutual
def aY:ValD->Nat
 | .mk _ _ s l=>1+s.size+aJ l
def aJ:List ValD->Nat
 |[]=>0
 |e::l=>aY e+aJ l
end
theorem cM (v:ValD):aY v=1+v.s.size+aJ v.l:=by cases v;rfl
theorem aPQ:∀l:List ValD,aJ l=(l.map aY).sum
 |[]=>rfl
 |e::l=>by simp only[aJ,List.map_cons,List.sum_cons,aPQ l]
theorem aDE (a b:List ValD):aJ (a++b)=aJ a+aJ b:=by simp[aPQ]
theorem bJ:∀l:List ValD,l.length<=aJ l
 |[]=>by simp
 |e::l=>by have:=bJ l;grind [cM,aJ,List.length_cons]
theorem bFJ (l:List ValD) (i:Nat) (h:i<l.length):aJ (l.take (i+1))=aJ (l.take i)+aY l[i]:=by grind [List.take_succ_eq_append_getElem,aDE,aJ]
theorem jS (l:List ValD) (i:Nat):aJ (l.take i)<=aJ l:=by grind [aDE,List.take_append_drop]
theorem bO {v:ValD}:∀ {l:List ValD},v∈l->aY v<=aJ l|x::l,h=>by simp only[aJ];rcases List.mem_cons.1 h with rfl|h;{omega};{have:=bO h;omega}
theorem aC (k:Nat) (h:k<9223372036854775807):IntKind.i64.wrap ((k:Int)+1)=((k+1:Nat):Int):=by grind [bH]
def chr (s:ByteArray) (i:Nat):Int:=((s.get! i).toNat:Int)
@[simp] theorem cRR (s:ByteArray) (i:Nat):((s.get! i).toNat:Int)=chr s i:=rfl
theorem aLU (s:ByteArray) (i:Nat):0<=chr s i/\chr s i<256:=by have:=(s.get! i).toNat_lt;grind [chr]
def jQ (c:Int):Bool:=decide (97<=c)&&decide (c<=122)
def iG (c:Int):Bool:=jQ c||(decide (65<=c)&&decide (c<=90))||(decide (48<=c)&&decide (c<=57))||decide (c=95)
end Go.Al
end
