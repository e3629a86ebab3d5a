/- What expressions come to, in plain words, as the program has it, where there are no tables. -/
import Derived.Test.YtackjebfmbnkbaaGreatDoorP28
import Derived.Test.YtackjebfmbnkbaaGreatDoorP21
import Derived.Lib.ParseIntB
import Derived.Test.YtackjebfmbnkbaaGreatDoorP31
import Derived.Test.YtackjebfmbnkbaaGreatDoorP34
import Derived.Test.YtackjebfmbnkbaaGreatDoorP23
import Derived.Ground.Names2Prog
import Derived.Ground.SlgnProg
import Derived.Test.YtackjebfmbnkbaaGreatDoorProg
import Derived.Shelf.LaysC
import Derived.Shelf.Strconv.ParseIntPublic10
import Derived.Test.YtackjebfmbnkbaaGreatDoorP16
set_option linter.unusedSimpArgs false
set_option linter.unusedVariables false
set_option linter.unusedSectionVars false
section
namespace Go.Al
open Go.Aw Go
def pY (b:Bool):ValD:=⟨1,if b=true then 1 else 0,⟨#[]⟩,[]⟩
def cR (n:Int):ValD:=⟨2,n,⟨#[]⟩,[]⟩
def bOK (s:ByteArray):ValD:=⟨3,0,s,[]⟩
def cAZ (s:ByteArray):ValD:=⟨4,0,s,[]⟩
abbrev iL:=ValD×Int
def aDJ (x y b:Int):Bool:=(!(decide (x<y)==decide (0<b)))&& !decide (b=0)
def bKB (a b:Int):Int×Int:=if aDJ a (IntKind.i64.wrap (a+b)) b=true then(0,80)else(IntKind.i64.wrap (a+b),0)
def aCZ (a b:Int):Int×Int:=if aDJ (IntKind.i64.wrap (a-b)) a b=true then(0,80)else(IntKind.i64.wrap (a-b),0)
def mS (n:Int):Int:=if n<0 then IntKind.u64.wrap (-(IntKind.u64.wrap n))else IntKind.u64.wrap n
def hiV (a b:Int):Int:=((((mS a).toNat*(mS b).toNat)/18446744073709551616:Nat):Int)
def loV (a b:Int):Int:=((((mS a).toNat*(mS b).toNat)% 18446744073709551616:Nat):Int)
def bHQ (a b:Int):Bool:=!(decide (a<0)==decide (b<0))
def bMW (a b:Int):Int×Int:=
 if(decide (0<hiV a b)||decide (9223372036854775808<loV a b)||(decide (loV a b=9223372036854775808)&& !bHQ a b))=true then(0,80)
 else if bHQ a b=true then(IntKind.i64.wrap (IntKind.u64.wrap (-(loV a b))),0)else(IntKind.i64.wrap (loV a b),0)
def bOC (a b:Int):Int×Int:=if b=0 then(0,81)else if b= -1 then aCZ 0 a else(IntKind.i64.wrap (a.tdiv b),0)
def bMY (a b:Int):Int×Int:=if b=0 then(0,81)else if b= -1 then(0,0)else(a.tmod b,0)
def aAN (ints:Int->Int->Int×Int) (o:ByteArray->ByteArray->ByteArray×Int) (a b:ValD):iL:=
 if a.kind=2/\b.kind=2 then(if(ints a.n b.n).2=0 then(cR (ints a.n b.n).1,0)else(v0,(ints a.n b.n).2))
 else if a.kind=3/\b.kind=3 then(if(o a.s b.s).2=0 then(bOK (o a.s b.s).1,0)else(v0,(o a.s b.s).2))else(v0,70)
def aVW (is:Int->Bool) (a b:ValD):iL:=(pY (is (oQ a b)),0)
def aJW (a b:ValD):iL:=if ¬a.kind=4\/ ¬b.kind=4 then(v0,70)else if 4096<a.s.size+b.s.size then(v0,80)else(cAZ (a.s++b.s),0)
def twos:List (ByteArray×(ValD->ValD->iL)):=[
 (⟨#[43]⟩,aAN bKB uD),(⟨#[45]⟩,aAN aCZ bBZ),(⟨#[42]⟩,aAN bMW bCT),(⟨#[47]⟩,aAN bOC bDZ),(⟨#[37]⟩,aAN bMY bCU),
 (⟨#[61,61]⟩,aVW fun c=>decide (c=0)),(⟨#[33,61]⟩,aVW fun c=>!decide (c=0)),(⟨#[60]⟩,aVW fun c=>decide (c<0)),(⟨#[60,61]⟩,aVW fun c=>decide (c<=0)),
 (⟨#[62]⟩,aVW fun c=>decide (0<c)),(⟨#[62,61]⟩,aVW fun c=>decide (0<=c)),(⟨#[43,43]⟩,aJW)]
def uV (s:ByteArray):Bool:=twos.any fun p=>decide (p.1=s)
def aOI (s:ByteArray) (a b:ValD):iL:=(((twos.find? fun p=>decide (p.1=s)).map fun p=>p.2 a b)).getD (v0,70)
def tAnd:ByteArray:=⟨#[97,110,100]⟩
def tOr:ByteArray:=⟨#[111,114]⟩
def ofI (n:Int):ByteArray:=⟨(Lib.itoa n).toArray⟩
def oO (s:ByteArray):Int×Int:=if cX s=0 then(match Lib.parseIntB 64 (bl s)with| .ok n=>(n,0)|_=>(0,80))else(0,cX s)
def bCQ (name:ByteArray) (a:ValD):iL:=
 if name=bGC/\a.kind=1 then(pY (decide (a.n=0)),0)
 else if name=aGJ/\a.kind=2 then(if(aCZ 0 a.n).2=0 then(cR (aCZ 0 a.n).1,0)else(v0,(aCZ 0 a.n).2))
 else if name=aGJ/\a.kind=3 then(bOK (qH a.s).1,0)
 else if name=bBU/\a.kind=4 then(cR a.s.size,0)
 else if name=bBW/\a.kind=2 then(bOK (ofI a.n),0)
 else if name=bBV/\a.kind=3 then(if(oO a.s).2=0 then(cR (oO a.s).1,0)else(v0,80))
 else(v0,70)
mutual
def lH:ValD->Nat
 | .mk _ _ _ l=>fS l+1
def fS:List ValD->Nat
 |[]=>0
 |v::l=>lH v+fS l
end
theorem bNH (v:ValD):lH v=fS v.l+1:=by cases v;rfl
theorem bDH (a b:List ValD):fS (a++b)=fS a+fS b:=by induction a with|nil=>simp[fS]|cons x a o=>grind [fS]
theorem aWD (l:List ValD) (k:Nat) (h:k<l.length):fS (l.take (k+1))=fS (l.take k)+lH l[k]:=by grind [List.take_succ_eq_append_getElem,bDH,fS]
mutual
theorem bNG:∀v:ValD,lH v<=aY v| .mk _ _ _ l=>by have:=uW l;grind [lH,aY]
theorem uW:∀l:List ValD,fS l<=aJ l
 |[]=>by simp[fS,aJ]
 |v::l=>by have:=bNG v;have:=uW l;grind [fS,aJ]
end
def fC:List iL->List ValD×Int
 |[]=>([],0)
 |r::l=>if r.2=0 then(if(fC l).2=0 then(r.1::(fC l).1,0)else([],(fC l).2))else([],r.2)
def iS (r:iL):Bool×Int:=if r.2=0 then(if r.1.kind=1 then(decide (r.1.n=1),0)else(false,70))else(false,r.2)
def cBZ (l:List ValD):iL:=if cF ⟨5,0,⟨#[]⟩,l⟩=65\/4096<lH ⟨5,0,⟨#[]⟩,l⟩then(v0,80)else if cF ⟨5,0,⟨#[]⟩,l⟩=0 then(⟨5,0,⟨#[]⟩,l⟩,0)else(v0,4)
def atV (l:List iL) (i:Nat):iL:=l.getD i (v0,0)
def aDY (kind:Int) (o:List iL):iL:=if kind=5 then(v0,63)else if(fC o).2=0 then cBZ (fC o).1 else(v0,(fC o).2)
def aFI (o:List iL):iL:=if(atV o 0).2=0 then(v0,70)else(v0,(atV o 0).2)
def ifR (o:List iL):iL:=if(iS (atV o 0)).2=0 then(if(iS (atV o 0)).1=true then atV o 1 else atV o 2)else(v0,(iS (atV o 0)).2)
def bCZ (and:Bool) (o:List iL):Bool×Int:=if(iS (atV o 0)).2=0 then(if(iS (atV o 0)).1=and then iS (atV o 1)else iS (atV o 0))else iS (atV o 0)
def xK (name:ByteArray) (o:List iL):iL:=
 if name=tAnd\/name=tOr then(if(bCZ (decide (name=tAnd)) o).2=0 then(pY (bCZ (decide (name=tAnd)) o).1,0)else(v0,(bCZ (decide (name=tAnd)) o).2))
 else if(fC o).2=0 then(if o.length=1 then bCQ name ((fC o).1.getD 0 v0)else aOI name ((fC o).1.getD 0 v0) ((fC o).1.getD 1 v0))else(v0,(fC o).2)
def bFN (name:ByteArray) (vs:List Bnd):iL:=match gF name vs with|some b=>(b.2,0)|none=>(v0,71)
def xG (vs:List Bnd) (kind:Int) (name:ByteArray) (v:ValD) (o:List iL):iL:=
 if kind=1 then(v,0)else if kind=2 then bFN name vs else if kind=4\/kind=5 then aDY kind o else if kind=7 then aFI o else if kind=8 then ifR o else xK name o
mutual
def evV (vs:List Bnd):ExprD->iL
 | .mk kind _ _ name v args=>xG vs kind name v (cKT vs args)
def cKT (vs:List Bnd):List ExprD->List iL
 |[]=>[]
 |e::l=>evV vs e::cKT vs l
end
theorem bJA (vs:List Bnd):∀l,cKT vs l=l.map (evV vs)
 |[]=>rfl
 |e::l=>by rw[cKT,List.map_cons,bJA vs l]
theorem bNX (vs:List Bnd) (e:ExprD):evV vs e=xG vs e.kind e.name e.v (e.args.map (evV vs)):=by cases e;rw[evV,bJA];rfl
def bMQ:List ByteArray:=[bGC,aGJ,bBU,bBW,bBV]
def nF (e:ExprD):Bool:=
 if e.kind=4 then !decide (e.args.length=1)&&decide (e.args.length<=16)else if e.kind=5 then true else if e.kind=7 then decide (e.args.length=1)else if e.kind=8 then decide (e.args.length=3)
 else if e.kind=6 then((uV e.name||decide (e.name=tAnd)||decide (e.name=tOr))&&decide (e.args.length=2))||(decide (e.args.length=1)&&has bMQ e.name)else false
mutual
def pM:ExprD->Bool
 | .mk kind line col name v args=>if kind=1 then decide (cF v=0)else if kind=2 then true else nF (.mk kind line col name v args)&&yY args
def yY:List ExprD->Bool
 |[]=>true
 |e::l=>pM e&&yY l
end
theorem xE (e:ExprD):pM e=if e.kind=1 then decide (cF e.v=0)else if e.kind=2 then true else nF e&&yY e.args:=by cases e;rfl
theorem aFG:∀l:List ExprD,yY l=l.all pM
 |[]=>rfl
 |e::l=>by rw[yY,List.all_cons,aFG l]
mutual
def xJ:ExprD->Nat->Bool
 | .mk _ _ _ _ _ args,n=>decide (64<n)||deepXs args (n+1)
def deepXs:List ExprD->Nat->Bool
 |[],_=>false
 |e::l,n=>xJ e n||deepXs l n
end
theorem bJM (e:ExprD) (n:Nat):xJ e n=(decide (64<n)||deepXs e.args (n+1)):=by cases e;rfl
theorem aFQ:∀ (l:List ExprD) (n:Nat),deepXs l n=l.any fun e=>xJ e n
 |[],_=>rfl
 |e::l,n=>by rw[deepXs,List.any_cons,aFQ l n]
def fH (vs:List Bnd) (e:ExprD):iL:=
 if xJ e 1=true then(v0,65)else if pM e=false then(v0,4)else if(vs.any fun b=>!decide (cF b.2=0))=true then(v0,4)else if(evV vs e).2=0 then evV vs e else(v0,(evV vs e).2)
def cY (vs:List Bnd) (e:ExprD):Bool×Int:=iS (fH vs e)
end Go.Al
end
section
namespace Go.Al
open Go.Aw Go
def pD (a:List ByteArray) (n:ByteArray):Nat:=a.findIdx fun x=>decide (x=n)
def rF (a b:List ByteArray):List Nat:=(b.filter fun n=>has a n).map fun n=>pD a n
def vI (a b:List ByteArray):List Nat:=(List.range b.length).filter fun k=>has a (b.getD k ⟨#[]⟩)
def tM (a b:List ByteArray):List Nat:=(List.range b.length).filter fun k=>!has a (b.getD k ⟨#[]⟩)
def kE (a b:List ByteArray):List ByteArray:=a++b.filter fun n=>!has a n
def byG (a:List ByteArray) (b:Tab) (k:ByteArray):Rows:=(b.2.filter fun s=>decide (hZ (gH s (vI a b.1))=k)).map fun s=>gH s (tM a b.1)
def mA (a b:Tab):Rows:=a.2.flatMap fun r=>(byG a.1 b (hZ (gH r (rF a.1 b.1)))).map fun s=>r++s
def aHZ (a b:Tab):Tab:=(kE a.1 b.1,mA a b)
def bW (names:List ByteArray) (r:List ValD):List Bnd:=names.zip r
def aBQ (R:eD) (rel:ByteArray) (pats:List ExprD) (t:Tab):Rows:=t.2.filter fun r=>!((kX rel R).any fun o=>(bR eB pats o (bW t.1 r)).2)
def mC (f e:Int):Int:=if ¬e=0/\(f=0\/e<f)then e else f
def pN (l:List Int):Int:=l.foldl mC 0
def cL (t:Tab) (e:ExprD):Rows×Int:=(t.2.filter fun r=>(cY (bW t.1 r) e).1,pN (t.2.map fun r=>(cY (bW t.1 r) e).2))
def uJ (names:List ByteArray) (n:ByteArray):List ByteArray:=if has names n=true then names else names++[n]
def aLL (names:List ByteArray) (n:ByteArray) (r:List ValD) (v:iL):Rows:=
 if v.2=0 then(if has names n=true then(if oQ (r.getD (pD names n) v0) v.1=0 then[r]else[])else[r++[v.1]])else[]
def gQ (t:Tab) (n:ByteArray) (e:ExprD):Rows×Int:=(t.2.flatMap fun r=>aLL t.1 n r (fH (bW t.1 r) e),pN (t.2.map fun r=>(fH (bW t.1 r) e).2))
def nG (bs:List Bnd):List ExprD->List ValD×Int
 |[]=>([],0)
 |e::l=>if(fH bs e).2=0 then((fH bs e).1::(nG bs l).1,(nG bs l).2)else([],(fH bs e).2)
def cZ (t:Tab) (es:List ExprD):Rows×Int:=(t.2.map fun r=>(nG (bW t.1 r) es).1,pN (t.2.map fun r=>(nG (bW t.1 r) es).2))
def upS (s:ByteArray):Bool:=!decide (chr s 0=45)
def aOK:Nat->List ByteArray->List ByteArray->ByteArray->ByteArray×Int
 |0,_,_,s=>(s,0)
 |f+1,up,down,s=>
  if up=[]/\down=[]then(s,0)
  else if up=[]\/(¬down=[]/\upS s=true)then(if(uD s (down.headD ⟨#[]⟩)).2=0 then aOK f up down.tail (uD s (down.headD ⟨#[]⟩)).1 else(⟨#[]⟩,80))
  else(if(uD s (up.headD ⟨#[]⟩)).2=0 then aOK f up.tail down (uD s (up.headD ⟨#[]⟩)).1 else(⟨#[]⟩,80))
def aQC (kind:Int) (v:ValD):ByteArray:=if kind=2 then ofI v.n else v.s
def aOJ (kind:Int) (l:List ValD):ByteArray×Int:=aOK (l.length+1) ((l.map (aQC kind)).filter fun s=>upS s) ((l.map (aQC kind)).filter fun s=>!upS s) ⟨#[48]⟩
def yB (l:List ValD):iL:=
 if(¬ (l.headD v0).kind=2/\ ¬ (l.headD v0).kind=3)\/(l.any fun v=>!decide (v.kind=(l.headD v0).kind))=true then(v0,70)
 else if ¬ (aOJ (l.headD v0).kind l).2=0 then(v0,80)
 else if(l.headD v0).kind=3 then(bOK (aOJ (l.headD v0).kind l).1,0)
 else if(oO (aOJ (l.headD v0).kind l).1).2=0 then(cR (oO (aOJ (l.headD v0).kind l).1).1,0)else(v0,80)
def cDK (l:List ValD):ValD:=l.tail.foldl (fun m x=>if oQ x m<0 then x else m) (l.headD v0)
def cDP (l:List ValD):ValD:=l.tail.foldl (fun m x=>if 0<oQ x m then x else m) (l.headD v0)
def bKA (agg:ByteArray) (l:List ValD):iL:=if agg=rS then(cR l.length,0)else if agg=aVM then(cDK l,0)else if agg=aVN then(cDP l,0)else yB l
def bDG (aggs:List ByteArray) (r:List ValD):List ValD:=((aggs.zip r).filter fun p=>decide (p.1=⟨#[]⟩)).map (·.2)
def iY (aggs:List ByteArray) (r:List ValD):ByteArray:=hZ (bDG aggs r)
def zX (ks:List ByteArray) (k:ByteArray):List ByteArray:=if has ks k=true then ks else ks++[k]
def zN (aggs:List ByteArray) (rows:Rows):List ByteArray:=rows.foldl (fun ks r=>zX ks (iY aggs r)) []
def aTA (aggs:List ByteArray) (rows:Rows) (k:ByteArray):Rows:=rows.filter fun r=>decide (iY aggs r=k)
def tW (rows:Rows) (i:Nat):List ValD:=rows.map fun r=>r.getD i v0
def aOA (rows:Rows) (i:Nat) (agg:ByteArray):iL:=if agg=⟨#[]⟩then((tW rows i).headD v0,0)else bKA agg (tW rows i)
def aGU (aggs:List ByteArray) (rows:Rows):List iL:=(List.range aggs.length).map fun i=>aOA rows i (aggs.getD i ⟨#[]⟩)
def nW (aggs:List ByteArray) (rows:Rows):Rows×Int:=
 ((zN aggs rows).map fun k=>(aGU aggs (aTA aggs rows k)).map (·.1),pN ((zN aggs rows).flatMap fun k=>(aGU aggs (aTA aggs rows k)).map (·.2)))
def fK:List (Tab×Int)->List Tab×Int
 |[]=>([],0)
 |r::l=>if r.2=0 then(if(fK l).2=0 then(r.1::(fK l).1,0)else([],(fK l).2))else([],r.2)
def t0:Tab:=([],[])
def opR (R:eD) (op:Int) (rel name:ByteArray) (args:List ExprD) (aggs:List ByteArray) (ts:List Tab):Tab×Int:=
 if op=1 then(([],[[]]),0)
 else if op=2 then((bL [] args,jN args (kX rel R)),0)
 else if op=3 then(aHZ (ts.getD 0 t0) (ts.getD 1 t0),0)
 else if op=4 then(((ts.getD 0 t0).1,aBQ R rel args (ts.getD 0 t0)),0)
 else if op=5 then(((ts.getD 0 t0).1,(cL (ts.getD 0 t0) (args.headD (.mk 0 0 0 ⟨#[]⟩ v0 []))).1),(cL (ts.getD 0 t0) (args.headD (.mk 0 0 0 ⟨#[]⟩ v0 []))).2)
 else if op=6 then((uJ (ts.getD 0 t0).1 name,(gQ (ts.getD 0 t0) name (args.headD (.mk 0 0 0 ⟨#[]⟩ v0 []))).1),(gQ (ts.getD 0 t0) name (args.headD (.mk 0 0 0 ⟨#[]⟩ v0 []))).2)
 else if op=7 then(([],(cZ (ts.getD 0 t0) args).1),(cZ (ts.getD 0 t0) args).2)
 else if op=8 then(if(cZ (ts.getD 0 t0) args).2=0 then(([],(nW aggs (cZ (ts.getD 0 t0) args).1).1),(nW aggs (cZ (ts.getD 0 t0) args).1).2)else(t0,(cZ (ts.getD 0 t0) args).2))
 else(([],fB ts),0)
def uY (r:Tab×Int):Tab×Int:=if r.2=0 then((r.1.1,rU r.1.2),0)else(t0,r.2)
mutual
def aI (R:eD):PlanD->Tab×Int
 | .mk op rel name args aggs ins=>if(fK (aXW R ins)).2=0 then uY (opR R op rel name args aggs (fK (aXW R ins)).1)else(t0,(fK (aXW R ins)).2)
def aXW (R:eD):List PlanD->List (Tab×Int)
 |[]=>[]
 |p::l=>aI R p::aXW R l
end
theorem aKF (R:eD):∀l,aXW R l=l.map (aI R)
 |[]=>rfl
 |p::l=>by rw[aXW,List.map_cons,aKF R l]
theorem lC (R:eD) (p:PlanD):aI R p=if(fK (p.ins.map (aI R))).2=0 then uY (opR R p.op p.rel p.name p.args p.aggs (fK (p.ins.map (aI R))).1)else(t0,(fK (p.ins.map (aI R))).2):=by cases p;rw[aI,aKF];rfl
end Go.Al
end
section
namespace Go.Al
open Go.Aw Go
theorem aPI:∀ (n u:Nat),u<=n-> ∀b∈Lib.decDigits u,48<=b.toNat/\b.toNat<=57|n,u,h,b,o=>by rw[Lib.decDigits]at o;split at o;{grind [List.mem_singleton,UInt8.toNat_ofNat']};{rcases List.mem_append.1 o with o|o;{cases n with|zero=>omega|succ n=>exact aPI n (u/10) (by omega) b o};grind [List.mem_singleton,UInt8.toNat_ofNat']}
theorem aIO:∀ (n u:Nat),u<=n->0<u-> ∃c r,Lib.decDigits u=c::r/\49<=c.toNat|n,u,h,o=>by rw[Lib.decDigits];split;{grind [UInt8.toNat_ofNat']};{cases n with|zero=>omega|succ n=>obtain⟨c,r,e,A⟩:=aIO n (u/10) (by omega) (by omega);simp_all}
def cCU (l:List UInt8):Prop:=l≠[]/\(1<l.length->l.head?≠some 48)/\ ∀b∈l,48<=b.toNat/\b.toNat<=57
theorem aHT (l:List UInt8):(⟨l.toArray⟩:ByteArray).size=l.length:=by rfl
theorem aRY (c:UInt8) (l:List UInt8):chr ⟨(c::l).toArray⟩ 0=c.toNat:=by rfl
theorem bOT (p:Int->Bool) (l:List UInt8):dE p ⟨l.toArray⟩ 0=l.all fun b=>p (b.toNat:Int):=rfl
theorem bRB {l:List UInt8} (h:cCU l):aES ⟨l.toArray⟩=true:=by obtain⟨h1,o,A⟩:=h;cases l with|nil=>simp_all|cons c l=>unfold aES;rw[aHT,aRY,bOT];simp only[Bool.and_eq_true,Bool.not_eq_true',decide_eq_false_iff_not,Bool.and_eq_false_iff,List.all_eq_true];refine⟨⟨fun e=>?_,?_⟩,fun b D=>?_⟩;{simp_all};{by_cases E:1<(c::l).length;{right;have:=o E;simp only[List.head?_cons,ne_eq,Option.some.injEq]at this;intro e;exact this (UInt8.toNat_inj.1 (by show c.toNat=48;omega))};omega};{have:=A b D;simp only[nI,Bool.and_eq_true,decide_eq_true_eq];omega}
theorem bBH {l:List UInt8} (h:cCU l):fJ ⟨l.toArray⟩=true/\mW ⟨l.toArray⟩=l.length:=by have D:=bRB h;obtain⟨h1,E,o⟩:=h;cases l with|nil=>simp_all|cons c l=>have G:=o c (by simp);have A:¬ (c.toNat:Int)=45:=(by omega);simp_all [fJ,aHT,aRY,if_neg,mW]
theorem cPD (c:UInt8) (l:List UInt8):(⟨(c::l).toArray⟩:ByteArray).extract 1 (⟨(c::l).toArray⟩:ByteArray).size=⟨l.toArray⟩:=by refine vZ ?_;rw[kM,aHT];show((c::l).drop 1).take _=l;simp
theorem aUS {l:List UInt8} (h:cCU l) (o:l.head?≠some 48):fJ ⟨(45::l).toArray⟩=true/\mW ⟨(45::l).toArray⟩=l.length:=by have D:=bRB h;have A:0<l.length:=List.length_pos_iff.2 h.1;constructor;{unfold fJ;rw[cPD,aHT,aRY];rw[if_pos (by simp;exact A)];rw[Bool.and_eq_true];refine⟨?_,D⟩;cases l with|nil=>simp at A|cons c l=>rw[aRY];simp only[Bool.not_eq_true',decide_eq_false_iff_not];intro e;simp only[List.head?_cons,ne_eq,Option.some.injEq]at o;exact o (UInt8.toNat_inj.1 (by show c.toNat=48;omega))};simp[mW,aHT,aRY,if_pos]
theorem bHM (u:Nat):cCU (Lib.decDigits u):=by refine⟨?_,fun h=>?_,aPI u u (Nat.le_refl _)⟩;{rw[Lib.decDigits];split<;>simp};{by_cases A:0<u;{obtain⟨c,r,e,o⟩:=aIO u u (Nat.le_refl _) A;rw[e];intro x;simp only[List.head?_cons,Option.some.injEq]at x;rw[x]at o;revert o;decide};grind [Lib.decDigits]}
theorem cFY {u:Nat} (h:0<u):(Lib.decDigits u).head?≠some 48:=by obtain⟨c,r,e,o⟩:=aIO u u (Nat.le_refl _) h;rw[e];intro x;simp_all
def lG (s:ByteArray):Prop:=fJ s=true/\mW s<=200
theorem cCQ {n:Int} (o: -9223372036854775808<=n) (h1:n<=9223372036854775807):lG (ofI n):=by unfold lG ofI Lib.itoa;split;{have hu:0<n.natAbs:=(by omega);have:=aUS (bHM n.natAbs) (cFY hu);refine⟨this.1,?_⟩;rw[this.2,Lib.decDigits_length];have:=Lib.nDigits_le20 n.natAbs (by omega);omega};grind [bBH,bHM,Lib.decDigits_length,Lib.nDigits_le20]
def oT (l:List Int):Prop:=l≠[]->l.getD (l.length-1) 0≠0
theorem aPW (l:List Int):∀n,0<pV l n->l.getD (pV l n-1) 0≠0
 |0,h=>by grind [pV]
 |n+1,h=>by unfold pV at h|-;split;{rename_i e;rw[if_pos e]at h;exact aPW l n h};assumption
theorem kV (l:List Int):oT (dH l):=by
 intro h;have hle:=aPV l l.length;have hlen:(dH l).length=pV l l.length:=by unfold dH;rw[List.length_take];omega
 have hp:0<pV l l.length:=by rw[<-hlen];exact List.length_pos_iff.2 h
 have:=aPW l l.length hp;grind [dH,List.getElem?_take_of_lt]
theorem aSU {n:Int} (h:0<=n):Lib.itoa n=Lib.decDigits n.toNat:=by simp_all [Lib.itoa,if_neg]
theorem bML {p:List Int} (A:eZ p) (i:Nat):∀b∈pE p i,48<=b.toNat/\b.toNat<=57:=by have D:=(jZ A i).1;unfold pE;rw[aSU D];split;{intro b o;rcases List.mem_append.1 o with o|o;{simp_all};{exact aPI _ _ (Nat.le_refl _) b o}};{exact aPI _ _ (Nat.le_refl _)}
theorem aXI {p:List Int} (A:eZ p):∀k,∀b∈mR p k,48<=b.toNat/\b.toNat<=57
 |0,b,o=>by grind [mR]
 |k+1,b,o=>by rw[mR]at o;rcases List.mem_append.1 o with o|o;{exact aXI A k b o};grind [bML]
theorem aPY {p:List Int} (o:eZ p) (hp:p≠[]) (A:oT p):∀k,∃c r,mR p (k+1)=c::r/\49<=c.toNat|0=>by (have E:0<p.length:=List.length_pos_iff.2 hp;have G:=jZ o (p.length-1);have I:=A hp;obtain⟨c,r,e,D⟩:=aIO (p.getD (p.length-1) 0).toNat _ (Nat.le_refl _) (by omega);refine⟨c,r,?_,D⟩;simp only[mR,List.nil_append,Nat.sub_zero];simp_all [pE,if_neg,aSU])|k+1=>by obtain⟨c,r,e,D⟩:=aPY o hp A k;simp_all [mR]
theorem bTU {p:List Int} (o:eZ p) (hp:p≠[]) (D:oT p):cCU (oI p)/\(oI p).head?≠some 48:=by
 have E:0<p.length:=List.length_pos_iff.2 hp;obtain⟨c,r,e,G⟩:=aPY o hp D (p.length-1);rw[show p.length-1+1=p.length by omega]at e;have A:(oI p).head?≠some 48:=by unfold oI;rw[e];intro x;simp_all
 exact⟨⟨by simp_all [oI],fun _=>A,aXI o _⟩,A⟩
theorem wH {x:nJ} (A:eZ x.parts) (D:oT x.parts) (h:(fP x).2=0):lG (fP x).1:=by unfold fP at h|-;split;{exact⟨by decide,by decide⟩};{rename_i hp;rw[if_neg hp]at h;have o:=bTU A hp D;split at h;{cases h};{rename_i E;rw[if_neg E];split;{have:=aUS o.1 o.2;exact⟨this.1,by grind⟩};{have:=bBH o.1;exact⟨this.1,by grind⟩}}}
theorem bHJ (s:ByteArray):oT (ofB s).parts:=kV _
theorem aJF (a b:nJ):oT (qN a b).parts:=by unfold qN;split;{exact kV _};{split<;>exact kV _}
end Go.Al
end
section
open Go Go.Aw Go.Proofs
namespace Go.Al
theorem aJE {a b:ByteArray} (h:(uD a b).2=0):lG (uD a b).1:=by rcases mD a b (fun x y=>fP (qN x y))with⟨A,o⟩|⟨_,_,_,o,D,E⟩;{simp_all [uD,absurd]};{rw[show uD a b=_ from o]at h|-;grind [wH,aCW,gE,aJF]}
theorem cIT {a b:ByteArray} (h:(bBZ a b).2=0):lG (bBZ a b).1:=by rcases mD a b (fun x y=>fP (qN x (oG y)))with⟨E,o⟩|⟨_,_,_,o,A,D⟩;{simp_all [bBZ,absurd]};{rw[show bBZ a b=_ from o]at h|-;exact wH (aCW (gE A).1 (show eZ (oG (ofB b)).parts from(gE D).1)) (aJF _ _) h}
theorem cJU {a b:ByteArray} (h:(bCT a b).2=0):lG (bCT a b).1:=by rcases mD a b (fun x y=>fP ⟨!(x.neg==y.neg),aVX x.parts y.parts⟩)with⟨E,o⟩|⟨_,_,_,o,A,D⟩;{simp_all [bCT,absurd]};{rw[show bCT a b=_ from o]at h|-;exact wH (aYM (gE A).1 (gE D).1) (kV _) h}
theorem bCO (a b:List Int):oT (tL a b).1/\oT (tL a b).2:=by refine⟨kV _,?_⟩;show oT (iF a b a.length).2;cases a.length with|zero=>intro h;exact absurd rfl h|succ n=>exact kV _
theorem aIM {a b:ByteArray} (h:(vT a b).2.2=0):oT (vT a b).1.parts/\oT (vT a b).2.1.parts:=by unfold vT at h|-;split;{rename_i o;rw[if_pos o]at h;unfold nH at h|-;split;{rename_i hp;rw[if_pos hp]at h;simp at h};{exact bCO _ _}};simp_all
theorem cKX {a b:ByteArray} (h:(bDZ a b).2=0):lG (bDZ a b).1:=by rcases aCR a b (fun x _=>x)with⟨o,A⟩|⟨o,A,f1,_⟩;{rw[show bDZ a b=_ from A]at h;exact absurd h o};simp_all [bDZ,wH,aIM]
theorem cJY {a b:ByteArray} (h:(bCU a b).2=0):lG (bCU a b).1:=by rcases aCR a b (fun _ x=>x)with⟨o,A⟩|⟨o,A,_,f2⟩;{rw[show bCU a b=_ from A]at h;exact absurd h o};simp_all [bCU,wH,aIM]
theorem cJO {a:ByteArray} (h:(qH a).2=0):lG (qH a).1:=by unfold qH at h|-;split;{rename_i o;rw[if_pos o]at h;exact wH (show eZ (oG (ofB a)).parts from(gE o).1) (bHJ a) h};simp_all
theorem bHL {s:ByteArray} (h:lG s):cX s=0:=by
 obtain⟨o,K⟩:=h;have G:=aHK s;have E:=aDL s (by rw[G];exact o);unfold aAO at E;rw[if_pos (by rw[G];exact o)]at E;have E:((fG s).size:Int)=mW s:=E;have L:bEP s (fG s)=false/\dE nI (fG s) 0=true:=by rw[<-G]at o;have J:=aAB (fG s);have e:aHM s= !(decide (fG s=⟨#[]⟩)|| !decide (lB (fG s) iB=⟨#[]⟩)||(decide (chr (fG s) 0=48)&& !decide (s=⟨#[48]⟩))):=rfl;rw[e]at o;rw[<-J];unfold bEP;generalize M:decide (fG s=⟨#[]⟩)=A at*;generalize O:(decide (chr (fG s) 0=48)&& !decide (s=⟨#[48]⟩))=D at*;by_cases I:lB (fG s) iB=⟨#[]⟩;{refine⟨?_,I⟩;simp only[I,decide_true,Bool.not_true,Bool.or_false]at o;simpa using o};{simp[I]at o}
 grind [cX]
theorem aRO (d:ByteArray) (o:∀i,i<d.size->48<=chr d i/\chr d i<=57):∀ (m e i:Nat),e<=d.size->i<(gV d m e).length->9*i<e/\0<=(gV d m e).getD i 0/\(gV d m e).getD i 0<(10 ^ (e-9*i):Nat)
 |0,e,i,_,h=>by grind [gV]
 |m+1,e,i,he,h=>by rw[gV]at h|-;split at h;{simp at h};{rename_i A;rw[if_neg A];cases i with|zero=>have D:=aEA d o (e-(e-9)) (e-9) 0 0 (by omega) (by omega) (by simp);have hp:(10 ^ (0+(e-(e-9))):Nat)<=10 ^ (e-9*0):=Nat.pow_le_pow_right (by omega) (by omega);grind|succ i=>have E:=aRO d o m (e-9) i (by omega) (by simpa using h);grind}
theorem aXH {p:List Int} (o:eZ p) (hp:0<p.length):∀k,(mR p (k+1)).length<=9*k+(pE p (p.length-1)).length
 |0=>by simp[mR]
 |k+1=>by have A:=aXH o hp k;grind [vK,mR,List.length_append]
theorem bTV {s:ByteArray} (h:cX s=0):(oI (ofB s).parts).length<=(fG s).size:=by
 have D:=tY h;have A:=(gE h).1;have E:=aPV (gV (fG s) (fG s).size (fG s).size) (gV (fG s) (fG s).size (fG s).size).length;have G:(ofB s).parts=dH (gV (fG s) (fG s).size (fG s).size):=rfl;have I:=aRO (fG s) D (fG s).size (fG s).size;rw[G]at A|-;generalize gV (fG s) (fG s).size (fG s).size=l at*;have hlen:(dH l).length=pV l l.length:=by simp_all [dH,List.length_take]
 by_cases J:(dH l).length=0;{simp_all [dH,List.eq_nil_of_length_eq_zero,oI,mR]};{have hi:=I ((dH l).length-1) (Nat.le_refl _) (by omega);have o:(dH l).getD ((dH l).length-1) 0=l.getD ((dH l).length-1) 0:=(by have:(dH l)[(dH l).length-1]? =l[(dH l).length-1]?:=(by unfold dH;rw[List.getElem?_take_of_lt];have:(List.take (pV l l.length) l).length=pV l l.length:=(by rw[List.length_take];omega);rw[hlen]at J;omega);simp_all);have K:=aXH A (by omega) ((dH l).length-1);rw[show(dH l).length-1+1=(dH l).length by omega]at K;have L:(pE (dH l) ((dH l).length-1)).length<=(fG s).size-9*((dH l).length-1):=(by unfold pE;rw[if_neg (by omega),o,aSU hi.2.1,Lib.decDigits_length];obtain⟨q,M⟩:∃q,(fG s).size-9*((dH l).length-1)=q+1:=⟨(fG s).size-9*((dH l).length-1)-1,by omega⟩;simp_all [aAS]);show(mR (dH l) (dH l).length).length<=_;omega}
theorem cJP {a:ByteArray} (h:lG a):lG (qH a).1:=by
 have o:=bHL h;refine cJO ?_;unfold qH;rw[if_pos o];have A:=bTV o;have D:(fG a).size<=200:=by unfold cX at o;split at o;{cases o};{split at o;{split at o;{cases o};{omega}};{cases o}}
 have hp:(oG (ofB a)).parts=(ofB a).parts:=rfl;unfold fP;grind
end Go.Al
end
section
open Go Go.Aw Go.Proofs
open Tryz
namespace Go.Al
set_option maxRecDepth 100000
set_option maxRecDepth 20000
instance:FT prog f120:=.n
instance:FT prog f232:=.n
instance:FT prog f222:=.n
instance:FT prog f154:=.n
instance:FT prog f156:=.n
instance:FT prog f228:=.n
attribute [local simp] aP aV
theorem bDW (n:Nat):∀v:ValD,aY v<n->aY v<=1099511627776->Con prog 120 [aP v] (aP v):=by
 induction n with|zero=>intro v h;omega|succ n G=>
 intro v M O;have I:=cM v;have hlen:=bJ v.l;refine Con.oc func120 fun C S U=>?_;refine bQ ?_;refine .block<| .loopG (fun k:Nat=>{tm:=[(1,.ptr 1 0),(2,.ptr 2 0),(3,.own 33 4 ((v.l.map bA).take k)),(7,.rd 4 (v.l.map bA)),(8,aB v.l.length),(9,aB k)],hp:=[(1,.cells 33 [dC v.kind,aB v.n,aE v.s,.rd 4 (v.l.map bA)]),(2,.cells 33 [dC 0,aB 0,aE ⟨#[]⟩,.val (.slice none 0 0)])]}) (fun k=>k<=v.l.length) (fun k=>v.l.length-k) 0 (by omega) (by simp) (fun k hk=>?_);refine aA ?_;refine .seq<| .cnd (fun o=>?_) (fun A=>?_);{have o:k<v.l.length:=(by simpa using o);have hm:=List.getElem_mem o;have J:=bO hm;have W:=G v.l[k] (by omega) (by omega);have D:(v.l.map bA).take (k+1)=(v.l.map bA).take k++[bA v.l[k]]:=(by rw[List.take_succ_eq_append_getElem (by simpa using o)];simp);have L:((v.l.map bA).take k).length=k:=(by simp;omega);generalize(v.l.map bA).take k=cur at*;refine goX [] fun K E=>?_;simp[o];refine ck E ?_;refine goX [{r:=aP v.l[k]}] fun K E=>?_;simp[o];refine ck E ?_;refine aA ?_;refine⟨k+1,by omega,by omega,?_⟩;rw[D];simp[aC k (by omega)]};have A:¬k<v.l.length:=by simpa using A
 refine .exit ?_;rw[List.take_of_length_le (show(v.l.map bA).length<=k by simp;omega)];refine aK ?_;exact rtC
theorem bLH (b:Bool):Con prog 232 [aD b] (.agg [dC 1,aB (if b=true then 1 else 0),aE ⟨#[]⟩,.val (.slice none 0 0)]):=by refine Con.oc func232 fun C o A=>?_;refine aK ?_;refine .cnd (fun h=>?_) (fun h=>?_);{refine aA ?_;refine .re ?_;exact .clos (by simp[h];rfl) rfl};refine aA ?_;refine .re ?_;exact .clos (by simp[h];rfl) rfl
theorem wG (b:Bool):Con prog 232 [aD b] (aP (pY b)):=
 (bLH b).res (.agg (.cons (.refl _) (.cons (.refl _) (.cons (.refl _) (.cons (.nil 4) .nil))))) rfl
theorem bKY (n:Int):Con prog 222 [aB n] (.agg [dC 2,aB n,aE ⟨#[]⟩,.val (.slice none 0 0)]):=by refine Con.oc func222 fun C o A=>?_;refine aK ?_;exact rtC
theorem aBU (n:Int):Con prog 222 [aB n] (aP (cR n)):=
 (bKY n).res (.agg (.cons (.refl _) (.cons (.refl _) (.cons (.refl _) (.cons (.nil 4) .nil))))) rfl
theorem cLS (a b:Int):Con prog 154 [aB a,aB b] (.tup [aB (bKB a b).1,aB (bKB a b).2]):=by
 refine Con.oc func154 fun C A D=>?_;refine bQ ?_;refine .cnd (fun h=>?_) (fun h=>?_);{have o:aDJ a (IntKind.i64.wrap (a+b)) b=true:=(by simpa[aDJ]using h);unfold bKB;rw[if_pos o];refine aA ?_;exact rtC};have o:aDJ a (IntKind.i64.wrap (a+b)) b=false:=by simpa[aDJ]using h
 unfold bKB;rw[if_neg (by rw[o];simp)];refine aA ?_;exact rtC
theorem bBY (a b:Int):Con prog 156 [aB a,aB b] (.tup [aB (aCZ a b).1,aB (aCZ a b).2]):=by
 refine Con.oc func156 fun C A D=>?_;refine bQ ?_;refine .cnd (fun h=>?_) (fun h=>?_);{have o:aDJ (IntKind.i64.wrap (a-b)) a b=true:=(by simpa[aDJ]using h);unfold aCZ;rw[if_pos o];refine aA ?_;exact rtC};have o:aDJ (IntKind.i64.wrap (a-b)) a b=false:=by simpa[aDJ]using h
 unfold aCZ;rw[if_neg (by rw[o];simp)];refine aA ?_;exact rtC
theorem bGM (n:Int):Con prog 228 [aB n] (.val (.int .u64 (mS n))):=by
 refine Con.oc func228 fun C o A=>?_;refine aK ?_;refine .cnd (fun h=>?_) (fun h=>?_);{have h:n<0:=(by simpa using h);unfold mS;rw[if_pos h];refine aA ?_;exact rtC};have h:¬n<0:=by simpa using h
 unfold mS;rw[if_neg h];refine aA ?_;exact rtC
end Go.Al
end
section
namespace Go.Proofs
open Go.Shelf
def Tryz.laysC174_ren:Go.Shelf.Ren:=⟨fun|174=>241|247=>299|245=>300|287=>367|279=>368|280=>369|281=>370|282=>371|321=>404|322=>405|316=>406|171=>408|205=>407|243=>417|246=>298|283=>363|284=>364|285=>365|286=>366|129=>133|317=>400|318=>401|319=>402|320=>403|337=>415|338=>416|n=>n,fun|9=>9|3=>3|2=>2|75=>288|85=>289|4=>4|167=>402|5=>5|53=>192|175=>403|46=>149|168=>405|37=>163|0=>0|210=>435|21=>21|127=>366|145=>442|143=>440|171=>398|173=>400|212=>430|51=>190|20=>20|213=>431|232=>444|233=>445|80=>306|n=>n,fun|15=>4|16=>5|17=>3|18=>6|19=>7|n=>n⟩
theorem Tryz.laysC174:Go.Proofs.LaysC.n174 Tryz.prog Tryz.laysC174_ren:={
 mixed:=by kernel_rfl
 f129:=Tryz.func133.trans (congrArg some (by kernel_rfl))
 f171:=Tryz.func408.trans (congrArg some (by kernel_rfl))
 f174:=Tryz.func241.trans (congrArg some (by kernel_rfl))
 f205:=Tryz.func407.trans (congrArg some (by kernel_rfl))
 f243:=Tryz.func417.trans (congrArg some (by kernel_rfl))
 f245:=Tryz.func300.trans (congrArg some (by kernel_rfl))
 f246:=Tryz.func298.trans (congrArg some (by kernel_rfl))
 f247:=Tryz.func299.trans (congrArg some (by kernel_rfl))
 f279:=Tryz.func368.trans (congrArg some (by kernel_rfl))
 f280:=Tryz.func369.trans (congrArg some (by kernel_rfl))
 f281:=Tryz.func370.trans (congrArg some (by kernel_rfl))
 f282:=Tryz.func371.trans (congrArg some (by kernel_rfl))
 f283:=Tryz.func363.trans (congrArg some (by kernel_rfl))
 f284:=Tryz.func364.trans (congrArg some (by kernel_rfl))
 f285:=Tryz.func365.trans (congrArg some (by kernel_rfl))
 f286:=Tryz.func366.trans (congrArg some (by kernel_rfl))
 f287:=Tryz.func367.trans (congrArg some (by kernel_rfl))
 f316:=Tryz.func406.trans (congrArg some (by kernel_rfl))
 f317:=Tryz.func400.trans (congrArg some (by kernel_rfl))
 f318:=Tryz.func401.trans (congrArg some (by kernel_rfl))
 f319:=Tryz.func402.trans (congrArg some (by kernel_rfl))
 f320:=Tryz.func403.trans (congrArg some (by kernel_rfl))
 f321:=Tryz.func404.trans (congrArg some (by kernel_rfl))
 f322:=Tryz.func405.trans (congrArg some (by kernel_rfl))
 f337:=Tryz.func415.trans (congrArg some (by kernel_rfl))
 f338:=Tryz.func416.trans (congrArg some (by kernel_rfl))
 t0:=Tryz.underlying0
 a0:=Tryz.isAgg0
 z0:=Tryz.sizeOf0
 v0:=Tryz.zeroValue0
 t2:=Tryz.underlying2
 a2:=Tryz.isAgg2
 z2:=Tryz.sizeOf2
 v2:=Tryz.zeroValue2
 t3:=Tryz.underlying3
 a3:=Tryz.isAgg3
 z3:=Tryz.sizeOf3
 v3:=Tryz.zeroValue3
 t4:=Tryz.underlying4
 a4:=Tryz.isAgg4
 z4:=Tryz.sizeOf4
 v4:=Tryz.zeroValue4
 t5:=Tryz.underlying5
 a5:=Tryz.isAgg5
 z5:=Tryz.sizeOf5
 v5:=Tryz.zeroValue5
 t9:=Tryz.underlying9
 a9:=Tryz.isAgg9
 z9:=Tryz.sizeOf9
 v9:=Tryz.zeroValue9
 t20:=Tryz.underlying20
 a20:=Tryz.isAgg20
 z20:=Tryz.sizeOf20
 v20:=Tryz.zeroValue20
 t21:=Tryz.underlying21
 a21:=Tryz.isAgg21
 z21:=Tryz.sizeOf21
 v21:=Tryz.zeroValue21
 t37:=Tryz.underlying163
 a37:=Tryz.isAgg163
 z37:=Tryz.sizeOf163
 v37:=Tryz.zeroValue163
 t46:=Tryz.underlying149
 a46:=Tryz.isAgg149
 z46:=Tryz.sizeOf149
 v46:=Tryz.zeroValue149
 t51:=Tryz.underlying190
 a51:=Tryz.isAgg190
 z51:=Tryz.sizeOf190
 v51:=Tryz.zeroValue190
 t53:=Tryz.underlying192
 a53:=Tryz.isAgg192
 z53:=Tryz.sizeOf192
 v53:=Tryz.zeroValue192
 t75:=Tryz.underlying288
 a75:=Tryz.isAgg288
 z75:=Tryz.sizeOf288
 v75:=Tryz.zeroValue288
 t85:=Tryz.underlying289
 a85:=Tryz.isAgg289
 z85:=Tryz.sizeOf289
 v85:=Tryz.zeroValue289
 t127:=Tryz.underlying366
 a127:=Tryz.isAgg366
 z127:=Tryz.sizeOf366
 v127:=Tryz.zeroValue366
 t143:=Tryz.underlying440
 a143:=Tryz.isAgg440
 z143:=Tryz.sizeOf440
 v143:=Tryz.zeroValue440
 t145:=Tryz.underlying442
 a145:=Tryz.isAgg442
 z145:=Tryz.sizeOf442
 v145:=Tryz.zeroValue442
 t167:=Tryz.underlying402
 a167:=Tryz.isAgg402
 z167:=Tryz.sizeOf402
 v167:=Tryz.zeroValue402
 t168:=Tryz.underlying405
 a168:=Tryz.isAgg405
 z168:=Tryz.sizeOf405
 v168:=Tryz.zeroValue405
 t171:=Tryz.underlying398
 a171:=Tryz.isAgg398
 z171:=Tryz.sizeOf398
 v171:=Tryz.zeroValue398
 t173:=Tryz.underlying400
 a173:=Tryz.isAgg400
 z173:=Tryz.sizeOf400
 v173:=Tryz.zeroValue400
 t175:=Tryz.underlying403
 a175:=Tryz.isAgg403
 z175:=Tryz.sizeOf403
 v175:=Tryz.zeroValue403
 t210:=Tryz.underlying435
 a210:=Tryz.isAgg435
 z210:=Tryz.sizeOf435
 v210:=Tryz.zeroValue435
 t212:=Tryz.underlying430
 a212:=Tryz.isAgg430
 z212:=Tryz.sizeOf430
 v212:=Tryz.zeroValue430
 t213:=Tryz.underlying431
 a213:=Tryz.isAgg431
 z213:=Tryz.sizeOf431
 t232:=Tryz.underlying444
 a232:=Tryz.isAgg444
 z232:=Tryz.sizeOf444
 v232:=Tryz.zeroValue444
 t233:=Tryz.underlying445
 a233:=Tryz.isAgg445
 z233:=Tryz.sizeOf445
 v233:=Tryz.zeroValue445
 g15:=by kernel_rfl
 g16:=by kernel_rfl
 g17:=by kernel_rfl
 g18:=by kernel_rfl
 g19:=by kernel_rfl
 t80:=Tryz.underlying306
 a80:=Tryz.isAgg306
 z80:=Tryz.sizeOf306
 v80:=Tryz.zeroValue306
 i0:=by kernel_rfl
 i2:=by kernel_rfl
 i3:=by kernel_rfl
 i4:=by kernel_rfl
 i5:=by kernel_rfl
 i9:=by kernel_rfl
 i20:=by kernel_rfl
 i21:=by kernel_rfl
 i37:=by kernel_rfl
 i46:=by kernel_rfl
 i51:=by kernel_rfl
 i53:=by kernel_rfl
 i75:=by kernel_rfl
 i80:=by kernel_rfl
 i85:=by kernel_rfl
 i127:=by kernel_rfl
 i143:=by kernel_rfl
 i145:=by kernel_rfl
 i167:=by kernel_rfl
 i168:=by kernel_rfl
 i171:=by kernel_rfl
 i173:=by kernel_rfl
 i175:=by kernel_rfl
 i210:=by kernel_rfl
 i212:=by kernel_rfl
 i232:=by kernel_rfl
 i233:=by kernel_rfl
 m15:=by kernel_rfl
 m16:=by kernel_rfl
 m17:=by kernel_rfl
 m18:=by kernel_rfl
 m19:=by kernel_rfl
 c0:=by kernel_rfl
 c2:=by kernel_rfl
 c3:=by kernel_rfl
 c4:=by kernel_rfl
 c5:=by kernel_rfl
 c9:=by kernel_rfl
 c20:=by kernel_rfl
 c21:=by kernel_rfl
 c37:=by kernel_rfl
 c46:=by kernel_rfl
 c51:=by kernel_rfl
 c53:=by kernel_rfl
 c75:=by kernel_rfl
 c80:=by kernel_rfl
 c85:=by kernel_rfl
 c127:=by kernel_rfl
 c143:=by kernel_rfl
 c145:=by kernel_rfl
 c167:=by kernel_rfl
 c168:=by kernel_rfl
 c171:=by kernel_rfl
 c173:=by kernel_rfl
 c175:=by kernel_rfl
 c210:=by kernel_rfl
 c212:=by kernel_rfl
 c213:=by kernel_rfl
 c232:=by kernel_rfl
 c233:=by kernel_rfl}
open Go.RowKit in
theorem Tryz.ParseInt_ok (s:ByteArray) (o:s.size<=9223372036854775806) (v:Int) (h:Lib.parseIntB 64 s.data.toList=.ok v) (w:World): Calls Tryz.prog 241 #[.string s,.int .i64 10,.int .i64 64] w fun e w'=>e=.returned (.tuple #[.int .i64 v,.nilIface])/\(w'=w\/ ∃t,w'=Lib.bytesWorld w 5 t):=Any.strconv_ParseInt_10_at64_ok Tryz.laysC174 s o v h w
open Go.RowKit in
theorem Tryz.ParseInt_syntax (s:ByteArray) (o:s.size<=281474976710656) (h:Lib.parseIntB 64 s.data.toList=Lib.NumEnd.syntax) (A:TypeId) (D:Value) (w:World) (E:w.cell? ⟨4,0,none⟩=some (.iface A D)): Calls Tryz.prog 241 #[.string s,.int .i64 10,.int .i64 64] w fun e w'=>∃N,e=.returned (.tuple #[.int .i64 0,.iface (Tryz.laysC174_ren.t 168) (.pointer (some ⟨N,0,none⟩))])/\w.heap.size<=N/\w'.heap[N]? =some (.cells #[.string ⟨#[80,97,114,115,101,73,110,116]⟩,.string s,.iface A D] (Tryz.laysC174_ren.t 210) (0,0))/\Below w.heap.size w w':=Any.strconv_ParseInt_10_at64_syntax Tryz.laysC174 s o h (.iface A D) w E (.inr ⟨A,D,rfl⟩)
open Go.RowKit in
theorem Tryz.ParseInt_range (s:ByteArray) (o:s.size<=281474976710656) (h:Lib.parseIntB 64 s.data.toList=.range) (A:TypeId) (D:Value) (w:World) (E:w.cell? ⟨5,0,none⟩=some (.iface A D)): Calls Tryz.prog 241 #[.string s,.int .i64 10,.int .i64 64] w fun e w'=>∃N,e=.returned (.tuple #[.int .i64 (Lib.intSat 64 s.data.toList),.iface (Tryz.laysC174_ren.t 168) (.pointer (some ⟨N,0,none⟩))])/\w.heap.size<=N/\w'.heap[N]? =some (.cells #[.string ⟨#[80,97,114,115,101,73,110,116]⟩,.string s,.iface A D] (Tryz.laysC174_ren.t 210) (0,0))/\Below w.heap.size w w':=Any.strconv_ParseInt_10_at64_range Tryz.laysC174 s o h (.iface A D) w E (.inr ⟨A,D,rfl⟩)
end Go.Proofs
end
section
open Go Go.Aw Go.Proofs
open Tryz
namespace Go.Al
set_option maxRecDepth 100000
set_option maxRecDepth 20000
instance:FT prog f182:=.n
theorem cET (k:Nat) (hk:k=4\/k=5) {fz:Fz} {w:World} (A:sK fz w) (D:GLok fz):∃a p,w.cell? ⟨k,0,none⟩=some (.iface a p):=by rcases hk with rfl|rfl;{obtain⟨o,h1,a,p,t,f,rfl⟩:=D.1 (4,fun o=>∃a p t f,o=.cells #[.iface a p] t f) (by simp[GL.need]);have:=A.2 _ _ h1;exact⟨a,p,by simp[World.cell?,this]⟩};{obtain⟨o,h1,a,p,t,f,rfl⟩:=D.1 (5,fun o=>∃a p t f,o=.cells #[.iface a p] t f) (by simp[GL.need]);have:=A.2 _ _ h1;exact⟨a,p,by simp[World.cell?,this]⟩}
theorem Con.libU {P:Program} {f:FuncId} (vs:List Value) (r:AV) (D:aG r=false) (he:Aw.Enters P f) (h:∀fz w,sK fz w->GLok fz->Calls P f vs.toArray w fun e w'=>∃v,e=.returned v/\Ext w w'/\ ∀fz',Holds fz' r bT v):Con P f (vs.map .val) r:=by
 refine⟨he,fun fz w us A E G=>?_⟩;have hu:us=vs.toArray:=by rw[<-tT G]
 subst hu;refine(h fz w A E).mono ?_;rintro e w' ⟨v,rfl,I,J⟩;exact⟨v,fz,rfl,I,Fz.le_refl _,⟨fun c o u hu=>I.cell (A.1 c o u hu),fun c o D=>I.heap (A.2 c o D)⟩,fun _ _=>⟨fun _=>rfl,rfl⟩,J fz,fun el wd rows K=>by rw[K]at D;cases D⟩
theorem aWM (s:ByteArray) (o:s.size<=4194304) (n:Int) (h:Lib.parseIntB 64 (bl s)=.ok n):Con prog 241 [aE s,aB 10,aB 64] (.tup [aB n,.val .nilIface]):=
 Con.libU [.string s,.int .i64 10,.int .i64 64] _ rfl ⟨_,func241,by kernel_rfl,rfl⟩ fun fz w A D=>by
  refine(Tryz.ParseInt_ok s (by omega) n h w).mono ?_
  rintro e w' ⟨rfl,hw⟩
  refine⟨_,rfl,?_,fun fz'=>by simp[Holds,HoldsL]⟩
  rcases hw with rfl|⟨t,rfl⟩
  ·exact Ext.refl _
  ·exact Ext.below (Lib.bytesWorld_below w _ t)
theorem bFA (s:ByteArray) (E:s.size<=4194304) (h:∀n,Lib.parseIntB 64 (bl s)≠ .ok n):∃n,Con prog 241 [aE s,aB 10,aB 64] (.tup [aB n,.ifc (Tryz.laysC174_ren.t 168) .unk]):=by cases hp:Lib.parseIntB 64 (bl s)with|ok n=>exact absurd hp (h n)|range=>refine⟨_,Con.libU [.string s,.int .i64 10,.int .i64 64] (.tup [aB (Lib.intSat 64 (bl s)),.ifc (Tryz.laysC174_ren.t 168) .unk]) rfl ⟨_,func241,by kernel_rfl,rfl⟩ fun fz w o A=>?_⟩;obtain⟨a,p,D⟩:=cET 5 (.inr rfl) o A;refine(Tryz.ParseInt_range s (by omega) hp a p w D).mono ?_;rintro e w' ⟨N,rfl,_,_,hw⟩;refine⟨_,rfl,Ext.below hw,fun fz'=>?_⟩;simp[Holds,HoldsL,bl];exact⟨_,_,⟨rfl,rfl⟩,rfl,_,rfl,_,rfl⟩|_=>refine⟨0,Con.libU [.string s,.int .i64 10,.int .i64 64] _ rfl ⟨_,func241,by kernel_rfl,rfl⟩ fun fz w o A=>?_⟩;obtain⟨a,p,D⟩:=cET 4 (.inl rfl) o A;refine(Tryz.ParseInt_syntax s (by omega) hp a p w D).mono ?_;rintro e w' ⟨N,rfl,_,_,hw⟩;refine⟨_,rfl,Ext.below hw,fun fz'=>?_⟩;simp[Holds,HoldsL];exact⟨_,_,⟨rfl,rfl⟩,rfl,_,rfl,_,rfl⟩
theorem cHS (s:ByteArray) (E:s.size<=4194304):Con prog 182 [aE s] (.tup [aB (oO s).1,aB (oO s).2]):=by
 have h1:=vA s (by omega);refine Con.oc func182 fun C J K=>?_;refine aA ?_;refine goC [{r:=aB (cX s)}] ?_;refine aA ?_;refine .cnd (fun c1=>?_) (fun c1=>?_);{have c1:¬cX s=0:=(by simpa using c1);have o:oO s=(0,cX s):=(by unfold oO;rw[if_neg c1]);rw[o];refine aA ?_;exact rtC};have c1:cX s=0:=by simpa using c1
 refine .skip ?_;by_cases A:∃n,Lib.parseIntB 64 (bl s)=.ok n;{obtain⟨n,G⟩:=A;have I:=aWM s E n G;have o:oO s=(n,0):=(by unfold oO;rw[if_pos c1,G]);rw[o];refine goC [{r:=.tup [aB n,.val .nilIface]}] ?_;refine aA ?_;refine .cf (by simp) ?_;refine aA ?_;exact rtC};{have D:∀n,Lib.parseIntB 64 (bl s)≠ .ok n:=fun n e=>A ⟨n,e⟩;obtain⟨m,I⟩:=bFA s E D;have o:oO s=(0,80):=(by unfold oO;rw[if_pos c1];cases hp:Lib.parseIntB 64 (bl s)with|ok n=>exact absurd hp (D n)|_=>rfl);rw[o];refine goC [{r:=.tup [aB m,.ifc (Tryz.laysC174_ren.t 168) .unk]}] ?_;refine aA ?_;refine .ct (by simp) ?_;refine aA ?_;exact rtC}
end Go.Al
end
section
open Go Go.Aw Go.Proofs
open Tryz
namespace Go.Al
set_option maxRecDepth 100000
set_option maxRecDepth 20000
instance:FT prog f158:=.n
instance:FT prog f160:=.n
instance:FT prog f162:=.n
attribute [local simp] aP aV
theorem cHO (x y:Nat) (o:x<18446744073709551616) (A:y<18446744073709551616):Con prog 227 [.val (.int .u64 x),.val (.int .u64 y)] (.tup [.val (.int .u64 ((x*y/18446744073709551616:Nat):Int)),.val (.int .u64 ((x*y% 18446744073709551616:Nat):Int))]):=
 Con.libU [.int .u64 x,.int .u64 y] _ rfl ⟨_,func227,by kernel_rfl,rfl⟩ fun fz w D E=>by
  refine(Tryz.bits_Mul64 x y o A w).mono ?_
  simp[Ext.refl,Holds,HoldsL]
theorem aXM (n:Int):0<=mS n/\mS n<18446744073709551616:=by grind [mS,IntKind.wrap_u64]
theorem cJW (a b:Int):Con prog 158 [aB a,aB b] (.tup [aB (bMW a b).1,aB (bMW a b).2]):=by
 have h1:=bGM a;have E:=bGM b;have s1:=aXM a;have s2:=aXM b;have A:=cHO (mS a).toNat (mS b).toNat (by omega) (by omega);rw[show(((mS a).toNat:Nat):Int)=mS a by omega,show(((mS b).toNat:Nat):Int)=mS b by omega]at A;have hH:hiV a b=(((mS a).toNat*(mS b).toNat/18446744073709551616:Nat):Int):=rfl;have D:loV a b=(((mS a).toNat*(mS b).toNat% 18446744073709551616:Nat):Int):=rfl;rw[<-hH,<-D]at A;unfold bMW;generalize hiV a b=hi at*;generalize loV a b=o at*;refine Con.oc func158 fun C G I=>?_;refine aA ?_;refine goC [{r:=.val (.int .u64 (mS a))},{r:=.val (.int .u64 (mS b))},{r:=.tup [.val (.int .u64 hi),.val (.int .u64 o)]}] ?_;refine aK ?_;refine .cnd (fun c1=>?_) (fun c1=>?_);{have c1:(decide (0<hi)||decide (9223372036854775808<o)||(decide (o=9223372036854775808)&& !bHQ a b))=true:=(by unfold bHQ;revert c1;generalize(decide (a<0)==decide (b<0))=v;generalize decide (0<hi)=x;generalize decide (9223372036854775808<o)=y;generalize decide (o=9223372036854775808)=z;revert x y z v;decide+kernel);rw[if_pos c1];refine aA ?_;exact rtC};have c1:¬ (decide (0<hi)||decide (9223372036854775808<o)||(decide (o=9223372036854775808)&& !bHQ a b))=true:=by unfold bHQ;revert c1;generalize(decide (a<0)==decide (b<0))=v;generalize decide (0<hi)=x;generalize decide (9223372036854775808<o)=y;generalize decide (o=9223372036854775808)=z;revert x y z v;decide+kernel
 rw[if_neg c1];refine aA ?_;refine .cnd (fun c2=>?_) (fun c2=>?_);{rw[if_pos (show bHQ a b=true from c2)];refine aA ?_;exact rtC};have c2:bHQ a b=false:=c2;rw[if_neg (by rw[c2];simp)];refine aA ?_;exact rtC
theorem cKZ (a b:Int):Con prog 160 [aB a,aB b] (.tup [aB (bOC a b).1,aB (bOC a b).2]):=by
 have h1:=bBY 0 a;unfold bOC;refine Con.oc func160 fun C A D=>?_;refine aK ?_;refine .cnd (fun c1=>?_) (fun c1=>?_);{have c1:b=0:=(by simpa using c1);rw[if_pos c1];refine aA ?_;exact rtC};have c1:¬b=0:=by simpa using c1
 rw[if_neg c1];refine aA ?_;refine .cnd (fun c2=>?_) (fun c2=>?_);{have c2:b= -1:=(by simpa using c2);rw[if_pos c2];refine goC [{r:=.tup [aB (aCZ 0 a).1,aB (aCZ 0 a).2]}] ?_;exact rtC};have c2:¬b= -1:=by simpa using c2
 rw[if_neg c2];refine goX [] fun K o=>?_;simp[c1];refine ck o ?_;exact rtC
theorem cKB (a b:Int):Con prog 162 [aB a,aB b] (.tup [aB (bMY a b).1,aB (bMY a b).2]):=by
 unfold bMY;refine Con.oc func162 fun C A D=>?_;refine bQ ?_;refine .cnd (fun c1=>?_) (fun c1=>?_);{have c1:b=0:=(by simpa using c1);rw[if_pos c1];refine aA ?_;exact rtC};have c1:¬b=0:=by simpa using c1
 rw[if_neg c1];refine aA ?_;refine .cnd (fun c2=>?_) (fun c2=>?_);{have c2:b= -1:=(by simpa using c2);rw[if_pos c2];refine aA ?_;exact rtC};have c2:¬b= -1:=by simpa using c2
 rw[if_neg c2];refine goX [] fun K o=>?_;simp[c1];refine ck o ?_;exact rtC
end Go.Al
end
section
namespace Go.Al
open Go.Aw Go
def gks (ks:List ByteArray):List Value:=ks.map Value.string
theorem bRK (F:ByteArray->AV) (s:ByteArray):∀ks:List ByteArray,eQ (.string s) (gks ks) (ks.map F)=if has ks s=true then some (F s)else none
 |[]=>rfl
 |t::ks=>by
  have e:eQ (.string s) (gks (t::ks)) ((t::ks).map F)=if dR (.string s) (.string t)=true then some (F t)else eQ (.string s) (gks ks) (ks.map F):=rfl
  rw[e,bRK F s ks];have o:has (t::ks) s=(decide (t=s)||has ks s):=rfl;rw[o];simp only[dR,decide_eq_true_eq];grind
theorem aYY (F:ByteArray->AV) (s:ByteArray) (y:AV):∀ks:List ByteArray,ks.Nodup->has ks s=true->fQ (.string s) y (gks ks) (ks.map F)=(gks ks,ks.map fun k=>if k=s then y else F k)
 |[],_,h=>by grind [has]
 |t::ks,o,h=>by
  have e:fQ (.string s) y (gks (t::ks)) ((t::ks).map F)=if dR (.string s) (.string t)=true then(.string s::gks ks,y::ks.map F)else let r:=fQ (.string s) y (gks ks) (ks.map F);(.string t::r.1,F t::r.2):=rfl
  rw[List.nodup_cons]at o;rw[e];simp only[dR,decide_eq_true_eq];by_cases h1:s=t;{subst h1;rw[if_pos rfl];have:(ks.map fun k=>if k=s then y else F k)=ks.map F:=List.map_congr_left fun k hk=>(by rw[if_neg];rintro rfl;exact o.1 hk);grind [gks]};{have A:¬t=s:=fun x=>h1 x.symm;have D:has ks s=true:=(by simpa[has,A]using h);rw[if_neg h1,aYY F s y ks o.2 D];simp[gks,A]}
theorem aYZ (F:ByteArray->AV) (s:ByteArray) (y:AV):∀ks:List ByteArray,¬has ks s=true->fQ (.string s) y (gks ks) (ks.map F)=(gks (ks++[s]),ks.map F++[y])
 |[],_=>rfl
 |t::ks,h=>by
  have e:fQ (.string s) y (gks (t::ks)) ((t::ks).map F)=if dR (.string s) (.string t)=true then(.string s::gks ks,y::ks.map F)else let r:=fQ (.string s) y (gks ks) (ks.map F);(.string t::r.1,F t::r.2):=rfl
  rw[e];simp only[has,List.any_cons,Bool.or_eq_true,decide_eq_true_eq,not_or]at h;have h1:¬s=t:=fun x=>h.1 x.symm;simp only[dR,decide_eq_true_eq];rw[if_neg h1,aYZ F s y ks h.2];rfl
theorem jD (k:Value) (y z:AV):∀ (ks:List Value) (vs:List AV),fQ k y ks (vs.set (aLB k ks) z)=fQ k y ks vs|[],vs=>rfl|a::ks,[]=>rfl|a::ks,x::vs=>by unfold aLB;by_cases h:dR k a=true;{simp[h,fQ]};{simp[h,fQ,jD k y z ks vs]}
theorem aBB (s:ByteArray) (ks:List ByteArray):∀a∈gks ks,cW (.string s) a=true:=by intro a o;obtain⟨p,_,rfl⟩:=List.mem_map.1 o;rfl
def dJ {α} (f:α->ByteArray) (l:List α):List ByteArray:=l.foldl (fun ks r=>zX ks (f r)) []
theorem aEZ {α} (f:α->ByteArray) (l:List α) (r:α):dJ f (l++[r])=zX (dJ f l) (f r):=by simp[dJ,List.foldl_append]
theorem bOU {ks:List ByteArray} (h:ks.Nodup) (k:ByteArray):(zX ks k).Nodup:=by grind [zX,List.nodup_append,List.mem_singleton,eT]
theorem cDL {ks:List ByteArray} {k s:ByteArray}:s∈zX ks k↔s∈ks\/s=k:=by grind [zX,eT]
theorem uU {α} (f:α->ByteArray):∀ (l:List α) (ks:List ByteArray),ks.Nodup->(l.foldl (fun ks r=>zX ks (f r)) ks).Nodup|[],_,h=>h|r::l,ks,h=>uU f l _ (bOU h _)
theorem bIH {α} (f:α->ByteArray) (l:List α):(dJ f l).Nodup:=uU f l [] List.nodup_nil
theorem zL {α} (f:α->ByteArray) (s:ByteArray):∀ (l:List α) (ks:List ByteArray),s∈l.foldl (fun ks r=>zX ks (f r)) ks↔s∈ks\/ ∃r∈l,f r=s
 |[],ks=>by simp
 |r::l,ks=>by rw[List.foldl_cons,zL f s l,cDL];grind
theorem aZC {α} (f:α->ByteArray) (l:List α) (s:ByteArray):s∈dJ f l↔ ∃r∈l,f r=s:=by simp[dJ,zL]
theorem zM {α} (f:α->ByteArray):∀ (l:List α) (ks:List ByteArray),(l.foldl (fun ks r=>zX ks (f r)) ks).length<=ks.length+l.length
 |[],ks=>by simp
 |r::l,ks=>by rw[List.foldl_cons];have:=zM f l (zX ks (f r));grind [zX,List.length_cons]
theorem wY {α} (f:α->ByteArray) (l:List α):(dJ f l).length<=l.length:=by have:=zM f l [];simp_all [dJ]
def pK {α} (f:α->ByteArray) (l:List α) (k:ByteArray):List α:=l.filter fun r=>decide (f r=k)
theorem aLG {α} (f:α->ByteArray) (l:List α) (r:α) (k:ByteArray):pK f (l++[r]) k=pK f l k++(if f r=k then[r]else[]):=by grind [pK]
theorem bDL {α} {f:α->ByteArray} {l:List α} {k:ByteArray} (h:has (dJ f l) k=true):pK f l k≠[]:=by simp_all [eT,aZC,pK,List.mem_filter]
theorem aLH {α} {f:α->ByteArray} {l:List α} {k:ByteArray} (h:¬has (dJ f l) k=true):pK f l k=[]:=by simp_all [eT,aZC,pK,List.filter_eq_nil_iff]
theorem xA {α} (f:α->ByteArray) (l:List α) (k:ByteArray):(pK f l k).length<=l.length:=List.length_filter_le _ _
def gvs {α} (f:α->ByteArray) (g:α->List AV) (e:Nat) (l:List α):List AV:=(dJ f l).map fun k=>.own e 1 ((pK f l k).map g)
theorem bDJ {α} (f:α->ByteArray) (g:α->List AV) (e:Nat) (l:List α) (r:α) (h:has (dJ f l) (f r)=true): fQ (.string (f r)) (.own e 1 ((pK f l (f r)).map g++[g r])) (gks (dJ f l)) (gvs f g e l)=(gks (dJ f (l++[r])),gvs f g e (l++[r])):=by
 unfold gvs;have hk:dJ f (l++[r])=dJ f l:=by rw[aEZ];unfold zX;rw[if_pos h]
 rw[aYY _ _ _ _ (bIH f l) h,hk];congr 1;refine List.map_congr_left fun k _=>?_;rw[aLG];grind
theorem bDK {α} (f:α->ByteArray) (g:α->List AV) (e:Nat) (l:List α) (r:α) (h:¬has (dJ f l) (f r)=true): fQ (.string (f r)) (.own e 1 [g r]) (gks (dJ f l)) (gvs f g e l)=(gks (dJ f (l++[r])),gvs f g e (l++[r])):=by
 unfold gvs;have hk:dJ f (l++[r])=dJ f l++[f r]:=by rw[aEZ];unfold zX;rw[if_neg h]
 rw[aYZ _ _ _ _ h,hk,List.map_append];congr 2;{refine List.map_congr_left fun k o=>?_;rw[aLG,if_neg,List.append_nil];rintro rfl;exact h ((eT _ _).2 o)};simp_all [List.map_singleton,aLG,if_pos,aLH]
theorem aIA {α} (f:α->ByteArray) (g:α->List AV) (e:Nat) (l:List α) (s:ByteArray):eQ (.string s) (gks (dJ f l)) (gvs f g e l)=if has (dJ f l) s=true then some (.own e 1 ((pK f l s).map g))else none:=bRK _ _ _
theorem bHF (F:ByteArray->List (List AV)) (e w:Nat) (ids:List Nat):∀ks:List ByteArray,bD ids (ks.map fun k=>AV.own e w (F k))=true|[]=>rfl|k::ks=>by simp
theorem nV {α} (f:α->ByteArray) (g:α->List AV) (e:Nat) (l:List α) (ids:List Nat):bD ids (gvs f g e l)=true:=bHF _ _ _ _ _
theorem bWQ {α} (f:α->ByteArray) (g:α->List AV) (e:Nat) (l:List α):aW (gvs f g e l)=true:=by simp[gvs,bMU]
theorem aSP (aggs:List ByteArray) (rows:Rows):zN aggs rows=dJ (iY aggs) rows:=rfl
theorem cKN (aggs:List ByteArray) (rows:Rows) (k:ByteArray):aTA aggs rows k=pK (iY aggs) rows k:=rfl
def aWC (aggs:List ByteArray) (r:List ValD) (j:Nat):List ValD:=(((aggs.zip r).take j).filter fun p=>decide (p.1=⟨#[]⟩)).map (·.2)
theorem bWC (aggs:List ByteArray) (r:List ValD) (j:Nat) (h:j<r.length) (o:j<aggs.length):aWC aggs r (j+1)=aWC aggs r j++(if aggs[j]=⟨#[]⟩then[r[j]]else[]):=by grind [aWC,List.take_succ_eq_append_getElem]
theorem bIF (aggs:List ByteArray) (r:List ValD) (j:Nat):(aWC aggs r j).length<=j:=by grind [aWC,List.length_map,Nat.le_trans,List.length_filter_le,List.length_take]
theorem bIG (aggs:List ByteArray) (r:List ValD):aWC aggs r r.length=bDG aggs r:=by grind [aWC,bDG,List.take_of_length_le,List.length_zip]
theorem cEB {aggs:List ByteArray} {r:List ValD} {v:ValD} (h:v∈bDG aggs r):v∈r:=by unfold bDG at h;obtain⟨p,hp,rfl⟩:=List.mem_map.1 h;exact(List.of_mem_zip (List.mem_filter.1 hp).1).2
theorem cEC (aggs:List ByteArray) (r:List ValD):(bDG aggs r).length<=r.length:=by rw[<-bIG];simp[bIF]
def aOT (rows:Rows) (i k:Nat):List ValD:=(rows.take k).map fun r=>r.getD i v0
theorem bXX (rows:Rows) (i k:Nat) (h:k<rows.length):aOT rows i (k+1)=aOT rows i k++[rows[k].getD i v0]:=by grind [aOT,List.take_succ_eq_append_getElem,List.map_singleton]
theorem cFZ (rows:Rows) (i k:Nat) (h:k<=rows.length):(aOT rows i k).length=k:=by simp[aOT];omega
theorem cGA (rows:Rows) (i:Nat):aOT rows i rows.length=tW rows i:=by simp[aOT,tW,List.take_length]
def aDA (aggs:List ByteArray) (rows:Rows) (i:Nat):List iL:=(List.range i).map fun i=>aOA rows i (aggs.getD i ⟨#[]⟩)
theorem bUR (aggs:List ByteArray) (rows:Rows) (i:Nat):aDA aggs rows (i+1)=aDA aggs rows i++[aOA rows i (aggs.getD i ⟨#[]⟩)]:=by simp[aDA,List.range_succ,List.map_append,List.map_singleton]
theorem cBS (aggs:List ByteArray) (rows:Rows) (i:Nat):(aDA aggs rows i).length=i:=by simp[aDA]
theorem cBT (aggs:List ByteArray) (rows:Rows):aDA aggs rows aggs.length=aGU aggs rows:=rfl
def aTB (aggs:List ByteArray) (rows:Rows) (k:Nat):Rows:=((zN aggs rows).take k).map fun k=>(aGU aggs (aTA aggs rows k)).map (·.1)
def aIC (aggs:List ByteArray) (rows:Rows) (k:Nat):Int:=pN (((zN aggs rows).take k).flatMap fun k=>(aGU aggs (aTA aggs rows k)).map (·.2))
theorem bXF (l m:List Int):pN (l++m)=m.foldl mC (pN l):=by simp[pN,List.foldl_append]
theorem bWT (aggs:List ByteArray) (rows:Rows) (k:Nat) (h:k<(zN aggs rows).length):aTB aggs rows (k+1)=aTB aggs rows k++[(aGU aggs (aTA aggs rows (zN aggs rows)[k])).map (·.1)]:=by grind [aTB,List.take_succ_eq_append_getElem,List.map_singleton]
theorem cEN (aggs:List ByteArray) (rows:Rows) (k:Nat) (h:k<=(zN aggs rows).length):(aTB aggs rows k).length=k:=by simp[aTB];omega
theorem bNN (aggs:List ByteArray) (rows:Rows) (k:Nat) (h:k<(zN aggs rows).length):aIC aggs rows (k+1)=((aGU aggs (aTA aggs rows (zN aggs rows)[k])).map (·.2)).foldl mC (aIC aggs rows k):=by grind [aIC,List.take_succ_eq_append_getElem,List.flatMap_singleton,bXF]
theorem bWS (aggs:List ByteArray) (rows:Rows):nW aggs rows=(aTB aggs rows (zN aggs rows).length,aIC aggs rows (zN aggs rows).length):=by simp[nW,aTB,aIC,List.take_length]
end Go.Al
end
section
namespace Go.Al
open Go.Aw Go
def tQ (l:List Nat):List (List AV):=l.map fun(n:Nat)=>[aB n]
theorem aKU (l:List Nat):(tQ l).length=l.length:=by simp[tQ]
theorem bNE (a b:List ByteArray) (k:Nat) (h:k<b.length):rF a (b.take (k+1))=rF a (b.take k)++(if has a b[k]=true then[pD a b[k]]else[]):=by grind [rF,List.take_succ_eq_append_getElem,has]
theorem aYW (a b:List ByteArray):(rF a b).length<=b.length:=by simp[rF,List.length_map,List.length_filter_le]
def yF (a b:List ByteArray) (k:Nat):List Nat:=(List.range k).filter fun k=>has a (b.getD k ⟨#[]⟩)
def yJ (a b:List ByteArray) (k:Nat):List Nat:=(List.range k).filter fun k=>!has a (b.getD k ⟨#[]⟩)
theorem bHC (a b:List ByteArray) (k:Nat) (h:k<b.length):yF a b (k+1)=yF a b k++(if has a b[k]=true then[k]else[]):=by grind [yF,List.range_succ,has]
theorem bHG (a b:List ByteArray) (k:Nat) (h:k<b.length):yJ a b (k+1)=yJ a b k++(if has a b[k]=true then[]else[k]):=by grind [yJ,List.range_succ,has]
theorem aQZ (a b:List ByteArray) (k:Nat):(yF a b k).length<=k:=by grind [yF,Nat.le_trans,List.length_filter_le]
theorem aRP (a b:List ByteArray) (k:Nat):(yJ a b k).length<=k:=by grind [yJ,Nat.le_trans,List.length_filter_le]
theorem bNF (a b:List ByteArray) (k:Nat) (h:k<b.length):kE a (b.take (k+1))=kE a (b.take k)++(if has a b[k]=true then[]else[b[k]]):=by grind [kE,List.take_succ_eq_append_getElem,List.append_assoc,has]
theorem aZF (a b:List ByteArray):(kE a b).length<=a.length+b.length:=by simp[kE,List.length_append,List.length_filter_le,has]
theorem cDY {a b:List ByteArray} {i:Nat} (h:i∈rF a b):i<a.length:=by unfold rF at h;obtain⟨n,o,rfl⟩:=List.mem_map.1 h;have o:=(List.mem_filter.1 o).2;unfold pD;exact List.findIdx_lt_length_of_exists (by obtain⟨x,A,hp⟩:=List.any_eq_true.1 o;simp_all)
theorem bUS {a b:List ByteArray} {i:Nat} (h:i∈vI a b):i<b.length:=by simp_all [vI,List.mem_filter]
theorem aYG {a b:List ByteArray} {i:Nat} (h:i∈tM a b):i<b.length:=by simp_all [tM,List.mem_filter]
theorem aKQ {r:List ValD} {l:List Nat} (h:∀i∈l,i<r.length) {v:ValD} (o:v∈gH r l):v∈r:=by grind [gH,v0,List.getElem_mem]
theorem aCE (r:List ValD) (l:List Nat):(gH r l).length=l.length:=by simp[gH]
def fR (l:List Nat) (r:List ValD):ByteArray:=hZ (gH r l)
def byB (a:List ByteArray) (b:Tab) (k:ByteArray):Rows:=pK (fR (vI a b.1)) b.2 k
theorem cPO (a:List ByteArray) (b:Tab) (k:ByteArray):byG a b k=(byB a b k).map fun s=>gH s (tM a b.1):=rfl
def bIK (a b:Tab) (k:Nat):Rows:=mA (a.1,a.2.take k) b
theorem aZD (a b:Tab) (k:Nat) (h:k<a.2.length):bIK a b (k+1)=bIK a b k++(byG a.1 b (fR (rF a.1 b.1) a.2[k])).map fun s=>a.2[k]++s:=by unfold bIK mA;simp only;rw[List.take_succ_eq_append_getElem h,List.flatMap_append,List.flatMap_singleton];rfl
theorem bIJ (a b:Tab):bIK a b a.2.length=mA a b:=by simp[bIK,List.take_length]
theorem bRL (a b:Tab):∀ (n k:Nat),k+n=a.2.length->(bIK a b k).length<=(mA a b).length
 |0,k,h=>by simp_all [bIJ,Nat.le_refl]
 |n+1,k,h=>by have:=bRL a b n (k+1) (by omega);grind [aZD,List.length_append]
def aOR (r:List ValD) (g:Rows) (j:Nat):Rows:=(g.take j).map fun s=>r++s
theorem bWK (r:List ValD) (g:Rows) (j:Nat) (h:j<g.length):aOR r g (j+1)=aOR r g j++[r++g[j]]:=by grind [aOR,List.take_succ_eq_append_getElem,List.map_singleton]
theorem cEH (r:List ValD) (g:Rows) (j:Nat) (h:j<=g.length):(aOR r g j).length=j:=by simp[aOR];omega
theorem cEI (r:List ValD) (g:Rows):aOR r g g.length=g.map fun s=>r++s:=by simp[aOR,List.take_length]
end Go.Al
end
section
namespace Go.Al
open Go.Aw Go
theorem aXJ:∀ (l:List (Tab×Int)) (j:Nat) (h:j<l.length),(∀r∈l.take j,r.2=0)-> ¬l[j].2=0->(fK l).2=l[j].2|r::l,0,_,_,o=>by simp_all [List.getElem_cons_zero,fK,if_neg]|r::l,j+1,h,A,o=>by have E:r.2=0:=A r (by simp);simp only[List.getElem_cons_succ]at o|-;have G:=aXJ l j (by simpa using h) (fun x D=>A x (by simp[D])) o;simp_all [fK,if_pos,if_neg]
theorem qC:∀ (l:List (Tab×Int)),(∀r∈l,r.2=0)->fK l=(l.map (·.1),0)|[],_=>rfl|r::l,o=>by have D:r.2=0:=o r (by simp);have E:=qC l fun x A=>o x (by simp[A]);simp_all [fK,if_pos,List.map_cons,if_true]
theorem cRF (R:eD) (rel name:ByteArray) (args:List ExprD) (aggs:List ByteArray) (ts:List Tab):opR R 1 rel name args aggs ts=(([],[[]]),0):=rfl
theorem cRE (R:eD) (rel name:ByteArray) (args:List ExprD) (aggs:List ByteArray) (ts:List Tab):opR R 2 rel name args aggs ts=((bL [] args,jN args (kX rel R)),0):=rfl
theorem cRD (R:eD) (rel name:ByteArray) (args:List ExprD) (aggs:List ByteArray) (a b:Tab):opR R 3 rel name args aggs [a,b]=(aHZ a b,0):=rfl
theorem cRC (R:eD) (rel name:ByteArray) (args:List ExprD) (aggs:List ByteArray) (t:Tab):opR R 4 rel name args aggs [t]=((t.1,aBQ R rel args t),0):=rfl
theorem cRB (R:eD) (rel name:ByteArray) (e:ExprD) (aggs:List ByteArray) (t:Tab):opR R 5 rel name [e] aggs [t]=((t.1,(cL t e).1),(cL t e).2):=rfl
theorem cRA (R:eD) (rel name:ByteArray) (e:ExprD) (aggs:List ByteArray) (t:Tab):opR R 6 rel name [e] aggs [t]=((uJ t.1 name,(gQ t name e).1),(gQ t name e).2):=rfl
theorem cQZ (R:eD) (rel name:ByteArray) (args:List ExprD) (aggs:List ByteArray) (t:Tab):opR R 7 rel name args aggs [t]=(([],(cZ t args).1),(cZ t args).2):=rfl
theorem cNH (R:eD) (rel name:ByteArray) (args:List ExprD) (aggs:List ByteArray) (t:Tab):opR R 8 rel name args aggs [t]=if(cZ t args).2=0 then(([],(nW aggs (cZ t args).1).1),(nW aggs (cZ t args).1).2)else(t0,(cZ t args).2):=rfl
theorem cQY (R:eD) (rel name:ByteArray) (args:List ExprD) (aggs:List ByteArray) (ts:List Tab):opR R 9 rel name args aggs ts=(([],fB ts),0):=rfl
end Go.Al
end
section
namespace Go.Al
open Go.Aw Go
def bNI (r:List ValD):List (List ValD)->List (List ValD)
 |[]=>[r]
 |s::l=>if cO r s<=0 then r::s::l else s::bNI r l
def jE (l:List (List ValD)):List (List ValD):=l.foldr bNI []
theorem aLF (r:List ValD):∀l,(bNI r l).Perm (r::l)|[]=>.refl _|s::l=>by unfold bNI;split;{rfl};{exact((aLF r l).cons s).trans (.swap r s l)}
theorem tC:∀l,(jE l).Perm l|[]=>.refl _|r::l=>(aLF r (jE l)).trans ((tC l).cons r)
theorem cU {l:List (List ValD)} {r:List ValD}:r∈jE l↔r∈l:=(tC l).mem_iff
theorem bDD {a b:List ValD} (o:cD a) (A:cD b):¬cO b a<0↔cO a b<=0:=by grind [mO]
theorem bRM (r:List ValD) (A:cD r):∀l,(∀s∈l,cD s)->l.Pairwise (fun a b=>cO a b<=0)->(bNI r l).Pairwise (fun a b=>cO a b<=0)
 |[],_,_=>by simp[bNI]
 |s::l,o,h=>by have G:=o s (by simp);have D:∀x∈l,cD x:=fun x E=>o x (by grind);rw[List.pairwise_cons]at h;unfold bNI;split;{grind [List.pairwise_cons,vX]};{rename_i hle;rw[List.pairwise_cons];refine⟨fun x E=>?_,bRM r A l D h.2⟩;grind [aLF,mO]}
theorem aQJ:∀l,(∀s∈l,cD s)->(jE l).Pairwise (fun a b=>cO a b<=0)|[],_=>.nil|r::l,h=>bRM r (h r (by simp)) _ (fun s o=>h s (by simp[cU.1 o])) (aQJ l fun s o=>h s (by grind))
theorem cBC {l m:List (List ValD)} (h:∀s∈l,cD s) (hm:m.Perm l) (hp:m.Pairwise (fun a b=>¬cO b a<0)):m=jE l:=by have o:∀s∈m,cD s:=fun s G=>h s (hm.mem_iff.1 G);refine List.Perm.eq_of_pairwise (le:=fun a b=>cO a b<=0) (fun a b D E h1 I=>?_) (hp.imp_of_mem fun D E A=>(bDD (o _ D) (o _ E)).1 A) (aQJ l h) (hm.trans (tC l).symm);grind [cU,mO,kL]
theorem mH (l:List (List ValD)):(jE l).length=l.length:=(tC l).length_eq
theorem cGW:∀ {l:List (List ValD)},(∀s∈l,cD s)->l.Nodup->l.Pairwise (fun a b=>cO a b<=0)->Asc l|[],_,_,_=>trivial|a::l,h,o,hp=>by rw[List.nodup_cons]at o;rw[List.pairwise_cons]at hp;refine⟨fun b D=>?_,cGW (fun s A=>h s (by simp[A])) o.2 hp.2⟩;grind [cO,kL]
theorem qE {l:List (List ValD)} (h:∀s∈l,cD s) (o:l.Nodup):Asc (jE l):=cGW (fun s A=>h s (cU.1 A)) ((tC l).nodup_iff.2 o) (aQJ l h)
end Go.Al
end
section
namespace Go.Al
open Go.Aw Go
def mJ:Nat->List (List ValD)->List (List ValD)->List (List ValD)
 |0,_,_=>[]
 |_+1,[],[]=>[]
 |n+1,[],y::b=>y::mJ n [] b
 |n+1,x::a,[]=>x::mJ n a []
 |n+1,x::a,y::b=>if cO x y<0 then x::mJ n a (y::b)else if cO x y=0 then x::mJ n a b else y::mJ n (x::a) b
def kP:Nat->List (List ValD)->List (List ValD)
 |0,_=>[]
 |n+1,l=>if l.length<=1 then l else mJ ((kP n (l.take (l.length/2))).length+(kP n (l.drop (l.length/2))).length) (kP n (l.take (l.length/2))) (kP n (l.drop (l.length/2)))
theorem bOE {a b d:List ValD} (o:cD a) (A:cD b) (D:cD d) (h1:cO a b<0) (E:cO b d<0):cO a d<0:=by grind [vX,cO,kL,mO]
theorem sO:∀ (n:Nat) (a b:List (List ValD)),a.length+b.length<=n->(∀r∈a,cD r)->(∀r∈b,cD r)->Asc a->Asc b->(∀r,r∈mJ n a b↔r∈a\/r∈b)/\Asc (mJ n a b)
 |0,a,b,K,_,_,_,_=>by simp_all [List.eq_nil_of_length_eq_zero,mJ,Asc]
 |_+1,[],[],_,_,_,_,_=>by simp[mJ,Asc]
 |n+1,[],y::b,K,E,G,h1,o=>by (obtain⟨I,D⟩:=sO n [] b (by grind) E (fun r A=>G r (by grind)) h1 o.2;simp only[mJ];exact⟨fun r=>by simp[*],fun r A=>o.1 r (by simp_all),D⟩)|n+1,x::a,[],K,E,G,h1,o=>by (obtain⟨I,D⟩:=sO n a [] (by grind) (fun r A=>E r (by grind)) G h1.2 o;simp only[mJ];exact⟨fun r=>by simp[*],fun r A=>h1.1 r (by simp_all),D⟩)|n+1,x::a,y::b,K,E,G,h1,o=>by have gx:=E x (by simp);have L:=G y (by simp);have M:∀r∈a,cD r:=fun r A=>E r (by grind);have O:∀r∈b,cD r:=fun r A=>G r (by grind);simp only[List.length_cons]at K;simp only[mJ];split;{rename_i J;obtain⟨I,D⟩:=sO n a (y::b) (by grind) M G h1.2 o;refine⟨fun r=>by grind,fun r A=>?_,D⟩;rcases(I r).1 A with h|h;{exact h1.1 r h};{rcases List.mem_cons.1 h with rfl|h;{omega};{exact bOE gx L (O r h) J (o.1 r h)}}};{split;{rename_i _ he;have he:=(kL gx L).1 he;subst he;obtain⟨I,D⟩:=sO n a b (by omega) M O h1.2 o.2;refine⟨fun r=>?_,fun r A=>?_,D⟩;{grind};{rcases(I r).1 A with h|h;{exact h1.1 r h};{exact o.1 r h}}};{rename_i J U;obtain⟨I,D⟩:=sO n (x::a) b (by grind) E O h1 o.2;have S:cO y x<0:=(by grind [mO]);refine⟨fun r=>?_,fun r A=>?_,D⟩;{grind};{rcases(I r).1 A with h|h;{rcases List.mem_cons.1 h with rfl|h;{omega};{exact bOE L gx (M r h) S (h1.1 r h)}};{exact o.1 r h}}}}
theorem aEF:∀ (n:Nat) (l:List (List ValD)),l.length<n->(∀r∈l,cD r)->(∀r,r∈kP n l↔r∈l)/\Asc (kP n l)
 |0,_,h,_=>by omega
 |n+1,l,h,A=>by unfold kP;split;{rename_i D;match l,D with|[],_=>simp[Asc]|[x],_=>simp[Asc]};{rename_i D;have g1:∀r∈l.take (l.length/2),cD r:=fun r o=>A r (List.mem_of_mem_take o);have g2:∀r∈l.drop (l.length/2),cD r:=fun r o=>A r (List.mem_of_mem_drop o);obtain⟨E,a2⟩:=aEF n (l.take (l.length/2)) (by rw[List.length_take];omega) g1;obtain⟨G,I⟩:=aEF n (l.drop (l.length/2)) (by rw[List.length_drop];omega) g2;obtain⟨J,K⟩:=sO _ _ _ (Nat.le_refl _) (fun r o=>g1 r ((E r).1 o)) (fun r o=>g2 r ((G r).1 o)) a2 I;grind [List.take_append_drop]}
theorem aQK {n:Nat} {l m:List (List ValD)} (o:l.length<n) (A:∀r∈l,cD r) (hm:Asc m) (h:∀r,r∈m↔r∈l):kP n l=m:=by grind [aEF,Asc.unique]
theorem wW:∀ (n:Nat) (a b:List (List ValD)),(mJ n a b).length<=a.length+b.length
 |0,_,_=>by simp[mJ]
 |_+1,[],[]=>by simp[mJ]
 |n+1,[],y::b=>by have:=wW n [] b;grind [mJ,List.length_cons,List.length_nil]
 |n+1,x::a,[]=>by have:=wW n a [];grind [mJ,List.length_cons,List.length_nil]
 |n+1,x::a,y::b=>by have h1:=wW n a (y::b);have o:=wW n a b;have A:=wW n (x::a) b;grind [mJ,List.length_cons]
theorem aBX:∀ (n:Nat) (l:List (List ValD)),(kP n l).length<=l.length
 |0,_=>by simp[kP]
 |n+1,l=>by unfold kP;split;{omega};{have h1:=aBX n (l.take (l.length/2));have o:=aBX n (l.drop (l.length/2));grind [wW,kP,List.length_take,List.length_drop]}
theorem wX {q:List ValD->Prop}:∀ (n:Nat) (a b:List (List ValD)),(∀r∈a,q r)->(∀r∈b,q r)-> ∀r∈mJ n a b,q r
 |0,_,_,_,_,r,h=>by grind [mJ]
 |_+1,[],[],_,_,r,h=>by grind [mJ]
 |n+1,[],y::b,o,A,r,h=>by (rcases List.mem_cons.1 h with rfl|h;{simp[*]};{exact wX n [] b o (fun r G=>A r (by grind)) r h})|n+1,x::a,[],o,A,r,h=>by (rcases List.mem_cons.1 h with rfl|h;{simp[*]};{exact wX n a [] (fun r G=>o r (by grind)) A r h})|n+1,x::a,y::b,o,A,r,h=>by have D:∀r∈a,q r:=fun r G=>o r (by grind);have E:∀r∈b,q r:=fun r G=>A r (by grind);simp only[mJ]at h;split at h;{rcases List.mem_cons.1 h with rfl|h;{simp[*]};{exact wX n a (y::b) D A r h}};{split at h;{rcases List.mem_cons.1 h with rfl|h;{simp[*]};{exact wX n a b D E r h}};{rcases List.mem_cons.1 h with rfl|h;{simp[*]};{exact wX n (x::a) b o E r h}}}
theorem aBY {q:List ValD->Prop}:∀ (n:Nat) (l:List (List ValD)),(∀r∈l,q r)-> ∀r∈kP n l,q r
 |0,_,_,r,h=>by grind [kP]
 |n+1,l,A,r,h=>by unfold kP at h;split at h;{simp[*]};{exact wX _ _ _ (aBY n _ fun r o=>A r (List.mem_of_mem_take o)) (aBY n _ fun r o=>A r (List.mem_of_mem_drop o)) r h}
end Go.Al
end
