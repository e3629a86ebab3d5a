/- The operations, on abstract values. -/
import Derived.Laws.BytesArg
import Derived.Laws.IdiomStrings
import Derived.Test.YtackjebfmbnkbaaGreatDoorP00
import Derived.OrdersIn
import Derived.Laws.Entries
import Derived.Laws.Slices
set_option linter.unusedSimpArgs false
set_option linter.unusedVariables false
set_option linter.unusedSectionVars false
section
namespace Go.Aw
variable [GL]
def bHI:AV->Bool
 | .unk | .agg _| .tup _=>false
 | .val v=>v.oneCell'
 |_=>true
def cellsOf:AV->Option (List AV)
 | .agg l=>if l.all bHI then some l else none
 | .val (.agg cs)=>if cs.toList.all Value.oneCell' then some (cs.toList.map .val)else none
 |x=>if bHI x then some [x]else none
mutual
def noref:AV->Bool
 | .ptr .. | .vec .. | .mapr _=>false
 | .agg l| .tup l=>aW l
 | .clo _ l=>aW l
 | .ifc _ x=>noref x
 |_=>true
def aW:List AV->Bool
 |[]=>true
 |x::xs=>noref x&&aW xs
end
variable {fz:Fz} {ρ:Ren}
mutual
def within (l:List Nat):AV->Bool
 | .ptr b _=>l.contains b
 | .vec b _ _ _ _=>l.contains b
 | .mapr b=>l.contains b
 | .agg x=>bD l x
 | .tup x=>bD l x
 | .clo _ x=>bD l x
 | .ifc _ x=>within l x
 |_=>true
def bD (l:List Nat):List AV->Bool
 |[]=>true
 |x::xs=>within l x&&bD l xs
end
mutual
theorem Holds.within {l:List Nat} {ρ':Ren} (A:∀b,l.contains b=true->ρ' b=ρ b):∀ (x:AV) (v:Value),within l x=true->Holds fz x ρ v->Holds fz x ρ' v
 | .unk,_,_,_=>by assumption
 | .val u,_,_,h=>by assumption
 | .agg x,v,o,h=>by (simp only[Holds]at h|-;simp only[Aw.within]at o;obtain⟨cs,e,h⟩:=h;exact⟨cs,e,HoldsL.within A x _ o h⟩)| .tup x,v,o,h=>by (simp only[Holds]at h|-;simp only[Aw.within]at o;obtain⟨cs,e,h⟩:=h;exact⟨cs,e,HoldsL.within A x _ o h⟩)| .clo fn x,v,o,h=>by (simp only[Holds]at h|-;simp only[Aw.within]at o;obtain⟨cs,e,h⟩:=h;exact⟨cs,e,HoldsL.within A x _ o h⟩)| .ifc t x,v,o,h=>by simp only[Holds]at h|-;simp only[Aw.within]at o;obtain⟨u,e,h⟩:=h;exact⟨u,e,Holds.within A x _ o h⟩
 | .rd ..,_,_,h| .fx ..,_,_,h| .own ..,_,_,h| .elt ..,_,_,h| .rmap ..,_,_,h| .kset ..,_,_,h=>by assumption
 | .ptr b off,v,o,h=>by simp_all [Holds,Aw.within]| .vec b w' off n cap,v,o,h=>by simp_all [Holds,Aw.within]| .mapr b,v,o,h=>by simp_all [Holds,Aw.within]
theorem HoldsL.within {l:List Nat} {ρ':Ren} (o:∀b,l.contains b=true->ρ' b=ρ b):∀ (x:List AV) (vs:List Value),bD l x=true->HoldsL fz x ρ vs->HoldsL fz x ρ' vs
 |[],_,_,h=>by assumption
 |x::xs,vs,A,h=>by simp only[HoldsL]at h|-;simp only[bD,Bool.and_eq_true]at A;obtain⟨v,r,e,h1,D⟩:=h;exact⟨v,r,e,Holds.within o x v A.1 h1,HoldsL.within o xs r A.2 D⟩
end
def Blk.within (l:List Nat):Blk->Prop
 | .cells _ cs=>bD l cs=true
 | .map _ vs=>bD l vs=true
 | .mapd _ vs=>bD l vs=true
 | .hid _ _=>True
def chunk {α:Type} (w n:Nat) (l:List α):List (List α):=(List.range n).map fun i=>(l.drop (i*w)).take w
mutual
inductive Rsv (g:Nat->Option Blk):AV->AV->Prop
 |closed {x:AV}:noref x=true->Rsv g x x
 |unk {x:AV}:Rsv g x .unk
 |own {e:TypeId} {w:Nat} {rows:List (List AV)}:Rsv g (.own e w rows) (.rd w rows)
 |fx {w:Nat} {rows:List (List AV)}:Rsv g (.fx w rows) (.rd w rows)
 |nil {w:Nat}:Rsv g (.val (.slice none 0 0)) (.rd w [])
 |agg {l l':List AV}:RsvL g l l'->Rsv g (.agg l) (.agg l')
 |tup {l l':List AV}:RsvL g l l'->Rsv g (.tup l) (.tup l')
 |clo {fn:Fn} {l l':List AV}:RsvL g l l'->Rsv g (.clo fn l) (.clo fn l')
 |ifc {t:TypeId} {x y:AV}:Rsv g x y->Rsv g (.ifc t x) (.ifc t y)
 |ptr {b off:Nat} {e:TypeId} {cs cs':List AV}:g b=some (.cells e cs)->RsvL g cs cs'->Rsv g (.ptr b off) (.elt cs'.length [cs'] 0 off)
 |vec {b w off n cap:Nat} {e:TypeId} {cs cs':List AV}:g b=some (.cells e cs)->RsvL g cs cs'->off+n*w<=cs.length->n<=cap->Rsv g (.vec b w off n cap) (.rd w (chunk w n (cs'.drop off)))
 |mapr {b:Nat} {ks:List Value} {vs vs':List AV}:g b=some (.map ks vs)->RsvL g vs vs'->Rsv g (.mapr b) (.rmap ks vs')
inductive RsvL (g:Nat->Option Blk):List AV->List AV->Prop
 |nil:RsvL g [] []
 |cons {x y:AV} {l l':List AV}:Rsv g x y->RsvL g l l'->RsvL g (x::l) (y::l')
end
def sK (fz:Fz) (w:World):Prop:=(∀c o v,fz.cell c o=some v->w.cell? ⟨c,o,none⟩=some v)/\(∀c o,fz.obj c=some o->w.heap[c]? =some o)
def bOX (fz:Fz) (w w':World) (e:TypeId) (wd:Nat) (rows:List (List AV)) (v:Value):Prop:=
 (v=.slice none 0 0/\rows=[])\/ ∃g cap cur,v=.slice (some ⟨g,0,none⟩) rows.length cap/\w.heap.size<=g/\w'.heap[g]? =some (.cells cur e (0,0))/\
  rows.length<=cap/\cap<=maxLen/\bZH cur cap wd/\(∀o,rows.length*wd<=o->fz.cell g o=none)/\fz.obj g=none
def Enters (P:Program) (f:FuncId):Prop:=∃fn,P.funcs[f]? =some fn/\(fn.name== "runtime.NumGoroutine")=false/\fn.body.isSome=true
def Con (P:Program) (f:FuncId) (ts:List AV) (r:AV):Prop:=Enters P f/\
 ∀ (fz:Fz) (w:World) (vs:Array Value),sK fz w->GLok fz->HoldsL fz ts bT vs.toList->
  Calls P f vs w fun e w'=>∃v fz',e=.returned v/\Ext w w'/\fz.le fz'/\sK fz' w'/\
   (∀c,c<w.heap.size->(∀o,fz'.cell c o=fz.cell c o)/\fz'.obj c=fz.obj c)/\Holds fz' r bT v/\
   ∀el wd rows,r=.own el wd rows->bOX fz' w w' el wd rows v
def hpV (H:Nat->Option Blk):View:=⟨fun _=>.unk,H⟩
def aMD:Act:={tmps:=#[],defers:=[]}
def cRY (fz:Fz) (ρ:Ren) (w:World) (e:TypeId) (wd:Nat) (rows:List (List AV)) (v:Value):Prop:=
 (v=.slice none 0 0/\rows=[])\/ ∃g cap cur,v=.slice (some ⟨g,0,none⟩) rows.length cap/\w.heap[g]? =some (.cells cur e (0,0))/\
  rows.length<=cap/\cap<=maxLen/\bZH cur cap wd/\(∀o,rows.length*wd<=o->fz.cell g o=none)/\fz.obj g=none/\(∀b,ρ b≠some g)
structure Mem (fz:Fz) (ρ:Ren) (w:World) (H:Nat->Option Blk):Prop where
 hp:∀b k,H b=some k-> ∃c,ρ b=some c/\BlkAt fz ρ w c k/\(∀o,fz.cell c o=none)/\fz.obj c=none
 dom:∀b,H b=none->ρ b=none
 inj:∀b b' c,ρ b=some c->ρ b'=some c->b=b'
 tips:∀p e wd rows,(hpV H).at p=.own e wd rows->cRY fz ρ w e wd rows (bM aMD w ρ p)
 tipinj:∀p q,aG ((hpV H).at p)=true->aG ((hpV H).at q)=true-> ∀g g' n n' c c',bM aMD w ρ p=.slice (some g) n c->bM aMD w ρ q=.slice (some g') n' c'->g.block=g'.block->p=q
def rP (ρ:Ren) (w:World) (H:Nat->Option Blk) (c:Nat):Prop:=(∃b,ρ b=some c)\/ ∃p g n cap,aG ((hpV H).at p)=true/\bM aMD w ρ p=.slice (some g) n cap/\g.block=c
structure cNQ (d:Prop) (Mu:Nat->Prop) (w w':World):Prop where
 os:w'.os=w.os
 tape:w'.tape=w.tape
 output:OutsD d w w'
 size:w.heap.size<=w'.heap.size
 block:∀k,k<w.heap.size-> ¬Mu k->w'.heap[k]? =w.heap[k]?
abbrev cHQ (Mu:Nat->Prop) (w w':World):Prop:=cNQ GL.dr Mu w w'
def bPA (H:Nat->Option Blk) (ρ:Ren):Prop:=∀b c k,GL.bren b=some c->H b=some k->ρ b=some c
def cNN (d:Prop) (fz:Fz) (ρ:Ren) (w:World) (H:Nat->Option Blk) (r:AV) (A:Nat->Option Blk) (e:Ending) (w':World):Prop:=
 ∃v fz' ρ',e=.returned v/\cNQ d (rP ρ w H) w w'/\fz.le fz'/\sK fz' w'/\
  (∀c,c<w.heap.size-> ¬rP ρ w H c->(∀o,fz'.cell c o=fz.cell c o)/\fz'.obj c=fz.obj c)/\
  Mem fz' ρ' w' A/\Ren.le ρ ρ'/\(∀b c,ρ' b=some c->ρ b=some c\/w.heap.size<=c\/rP ρ w H c)/\
  (∀c,rP ρ' w' A c->w.heap.size<=c\/rP ρ w H c)/\Holds fz' r ρ' v
abbrev cHM (fz:Fz) (ρ:Ren) (w:World) (H:Nat->Option Blk) (r:AV) (o:Nat->Option Blk) (e:Ending) (w':World):Prop:=cNN GL.dr fz ρ w H r o e w'
def cSB (d:Prop) (ok:Fz->Prop) (o:Ren->Prop) (X:Array Value->World->(Ending->World->Prop)->Prop) (H:List (Nat×Blk)) (ts:List AV) (r:AV) (A:List (Nat×Blk)):Prop:=aG r=false/\
 ∀ (fz:Fz) (ρ:Ren) (w:World) (vs:Array Value),sK fz w->ok fz->Mem fz ρ w (lk H)->o ρ->HoldsL fz ts ρ vs.toList->X vs w (cNN d fz ρ w (lk H) r (lk A))
def cIA (X:Array Value->World->(Ending->World->Prop)->Prop) (H:List (Nat×Blk)) (ts:List AV) (r:AV) (o:List (Nat×Blk)):Prop:=cSB GL.dr GLok (bPA (lk H)) X H ts r o
def ConM (P:Program) (f:FuncId) (H:List (Nat×Blk)) (ts:List AV) (r:AV) (o:List (Nat×Blk)):Prop:=Enters P f/\cIA (Calls P f) H ts r o
def aVF (P:Program) (l:Nat) (vs:Array Value) (w:World) (R:Ending->World->Prop):Prop:=
 ∃fn tmps assign body,(Instr.yield l vs).run P w=.ok (.round l fn tmps assign body) w/\RoundIn Fence.wide 0 P l fn tmps assign body w R
abbrev YB:Nat:=1000000
def KonM (P:Program) (f:Nat) (H:List (Nat×Blk)) (ts:List AV) (r:AV) (o:List (Nat×Blk)):Prop:=
 (f<YB/\ConM P f H ts r o)\/(YB<=f/\cIA (aVF P (f-YB)) H ts r o)
def gI:Value->Option Nat
 | .slice (some a) _ _=>some a.block
 |_=>none
def bOY (fz:Fz) (w:World) (e:TypeId) (wd:Nat) (rows:List (List AV)) (v:Value):Prop:=
 (v=.slice none 0 0/\rows=[])\/ ∃g cap cur,v=.slice (some ⟨g,0,none⟩) rows.length cap/\w.heap[g]? =some (.cells cur e (0,0))/\
  rows.length<=cap/\cap<=maxLen/\bZH cur cap wd/\(∀o,rows.length*wd<=o->fz.cell g o=none)/\fz.obj g=none
def ConO (P:Program) (f:FuncId) (e:TypeId) (wd:Nat) (rows:List (List AV)) (ts:List AV) (A:List (List AV)):Prop:=Enters P f/\
 ∀ (fz:Fz) (w:World) (v:Value) (vs:List Value),sK fz w->GLok fz->Holds fz (.own e wd rows) bT v->HoldsL fz ts bT vs->bOY fz w e wd rows v->
  Calls P f (v::vs).toArray w fun E w'=>∃D fz',E=.returned D/\cHQ (fun c=>gI v=some c) w w'/\fz.le fz'/\sK fz' w'/\
   (∀c,c<w.heap.size->gI v≠some c->(∀o,fz'.cell c o=fz.cell c o)/\fz'.obj c=fz.obj c)/\Holds fz' (.own e wd A) bT D/\bOY fz' w' e wd A D/\
   (∀c,gI D=some c->w.heap.size<=c\/gI v=some c)
structure Res where
 r:AV:=.unk
 us:List Nat:=[]
 bs:List (Nat×Blk):=[]
 ow:Bool:=false
inductive Lt:AV->AV->Prop
 |refl {x:AV}:Lt x x
 |unk {x:AV}:Lt x .unk
 |own {e:TypeId} {w:Nat} {rows:List (List AV)}:Lt (.own e w rows) (.rd w rows)
 |fx {w:Nat} {rows:List (List AV)}:Lt (.fx w rows) (.rd w rows)
 |nil {w:Nat}:Lt (.val (.slice none 0 0)) (.rd w [])
inductive LtL:List AV->List AV->Prop
 |nil:LtL [] []
 |cons {x y:AV} {l l':List AV}:Lt x y->LtL l l'->LtL (x::l) (y::l')
theorem Lt.holds {fz:Fz} {ρ:Ren} {x y:AV} {v:Value} (h:Lt x y) (o:Holds fz x ρ v):Holds fz y ρ v:=by cases h with|refl=>exact o|unk=>simp[Holds]|own=>assumption|fx=>simp only[Holds]at o|-;grind|nil=>simp_all [Holds,Nat.le_refl]
theorem LtL.holds {fz:Fz} {ρ:Ren} {l A:List AV} {vs:List Value} (h:LtL l A) (o:HoldsL fz l ρ vs):HoldsL fz A ρ vs:=by induction h generalizing vs with|nil=>exact o|cons h _ D=>simp only[HoldsL]at o|-;obtain⟨v,r,e,h1,E⟩:=o;exact⟨v,r,e,h.holds h1,D E⟩
inductive AOp where
 |copy (tk:Bool) (x:Operand)
 |box (e:TypeId) (x:Operand)
 |alloc (e:TypeId) (zero:List Value)
 |build (zero:List Value) (parts:List (Nat×Nat×Operand))
 |bslice (e:TypeId) (w:Nat) (zero:List Value) (n:Nat) (parts:List (Nat×Operand))
 |load (n:Nat) (ag:Bool) (tk:Bool) (x:Operand)
 |store (n:Nat) (tk:Bool) (x v:Operand)
 |bin (op:BinOp) (x y:Operand)
 |eqg (neg:Bool) (ks:List Nat) (x y:Operand)
 |eqb (neg:Bool) (x y:Operand)
 |un (op:UnOp) (x:Operand)
 |conv(k:IntKind) (x:Operand)
 |mkf (fn:Fn) (caps:List Operand)
 |mkmap (r:Option Operand)
 |mksl (e:TypeId) (w bytes:Nat) (zero:List Value) (len cap:Operand)
 |sub (w:Nat) (x:Operand) (lo hi mx:Option Operand)
 |subs (x:Operand) (lo hi:Option Operand)
 |fad (off:Nat) (x:Operand)
 |fld (off n:Nat) (ag:Bool) (x:Operand)
 |iad (w:Nat) (x i:Operand)
 |idxs (x i:Operand)
 |lkp (kd:Nat) (zero:Value) (ok:Bool) (x k:Operand)
 |lkpt (kd:Nat) (zero:Value) (x k:Operand)
 |mupd (kd:Nat) (x k v:Operand)
 |ext (x:Operand) (i:Nat)
 |len (kd:Nat) (x:Operand)
 |app (e:TypeId) (w bytes:Nat) (s x:Operand)
 |del (kd:Nat) (x k:Operand)
 |isnil (neg:Bool) (x:Operand)
 |pick (c x y:Operand)
 |mm (mx:Bool) (x y:Operand)
 |mx4 (x y z u:Operand)
 |apps (e:TypeId) (bytes:Nat) (s x:Operand)
 |x1 (k:Nat) (x:Operand)
 |iada (n w:Nat) (x i:Operand)
 |idxv (n w:Nat) (ag:Bool) (x i:Operand)
 |call (f:Operand) (args:List Operand)
 deriving Inhabited
def AOp.opds:AOp->List Operand
 | .copy _ x| .box _ x| .isnil _ x| .load _ _ _ x| .un _ x| .conv _ x| .fad _ x| .fld _ _ _ x| .ext x _| .len _ x| .x1 _ x=>[x]
 | .alloc _ _=>[]
 | .mkmap r=>r.toList
 | .build _ ps=>ps.map (·.2.2)
 | .bslice _ _ _ _ ps=>ps.map (·.2)
 | .store _ _ x v| .bin _ x v| .eqg _ _ x v| .eqb _ x v| .mksl _ _ _ _ x v| .iad _ x v| .iada _ _ x v| .idxv _ _ _ x v| .idxs x v| .lkp _ _ _ x v| .lkpt _ _ x v| .app _ _ _ x v| .del _ x v=>[x,v]
 | .mkf _ o=>o
 | .sub _ x A hi mx=>x::(A.toList++(hi.toList++mx.toList))
 | .subs x A hi=>x::(A.toList++hi.toList)
 | .mupd _ x k v=>[x,k,v]
 | .pick c x y=>[c,x,y]
 | .mm _ x y=>[x,y]
 | .mx4 x y z u=>[x,y,z,u]
 | .apps _ _ x v=>[x,v]
 | .call f args=>f::args
structure Eff where
 out:AV
 dem:Option Pl:=none
 blk:Option (Nat×Blk):=none
 ob:Prop:=True
 bs:List (Nat×Blk):=[]
def gK:Operand->Option Pl
 | .tmp t=>some (.t t)
 |_=>none
def aAD (l:List AV) (off n:Nat) (x:List AV):Option (List AV):=
 if x.length=n/\off+n<=l.length then some (l.take off++x++l.drop (off+n))else none
def aTL:List AV->List (Nat×Nat×AV)->Option (List AV)
 |l,[]=>some l
 |l,(off,n,x)::r=>match cellsOf x with
  |some cs=>match aAD l off n (cs.map Aw.dem)with
   |some o=>aTL o r
   |none=>none
  |none=>none
def dR:Value->Value->Bool
 | .string a,.string b=>decide (a=b)
 | .int j a,.int k b=>decide (j=k)&&decide (a=b)
 | .bool a,.bool b=>a==b
 |_,_=>false
def rH:Nat->Value->Bool
 |0,.int _ _=>true
 |1,.string _=>true
 |2,.bool _=>true
 |_,_=>false
def cW:Value->Value->Bool
 | .string _,.string _=>true
 | .int j _,.int k _=>decide (j=k)
 | .bool _,.bool _=>true
 |_,_=>false
def eQ (k:Value):List Value->List AV->Option AV
 |a::ks,x::vs=>if dR k a then some x else eQ k ks vs
 |_,_=>none
def fQ (k:Value) (y:AV):List Value->List AV->List Value×List AV
 |a::ks,x::vs=>if dR k a then(k::ks,y::vs)else let r:=fQ k y ks vs;(a::r.1,x::r.2)
 |_,_=>([k],[y])
def aAZ (k:Value):List Value->List AV->List Value×List AV
 |a::ks,x::vs=>if dR k a then(ks,vs)else let r:=aAZ k ks vs;(a::r.1,x::r.2)
 |_,_=>([],[])
def bOH (op:BinOp) (a b:Int):Option Bool:=
 match op with
  | .eql=>some (a==b)| .neq=>some (a != b)| .lss=>some (decide (a<b))| .leq=>some (decide (a<=b))| .gtr=>some (decide (a>b))| .geq=>some (decide (a>=b))
  |_=>none
def cPR (k:IntKind) (a b:Int):Int:=k.wrap ((BitVec.ofInt k.bits a&&& BitVec.ofInt k.bits b).toNat:Nat)
def orI (k:IntKind) (a b:Int):Int:=k.wrap ((BitVec.ofInt k.bits a|||BitVec.ofInt k.bits b).toNat:Nat)
def aVJ (k:IntKind) (a b:Int):Int:=k.wrap ((BitVec.ofInt k.bits a ^^^ BitVec.ofInt k.bits b).toNat:Nat)
def cNT (k:IntKind) (a b:Int):Int:=k.wrap (a*2 ^ min b.toNat k.bits)
def bUO (k:IntKind) (a b:Int):Int:=a/2 ^ min b.toNat k.bits
def bEI (k:IntKind) (a:Int):Int:=aVJ k (if k.signed then-1 else k.max) a
def cGO (op:BinOp) (k:IntKind) (a b:Int):Option Value:=
 match op with
  | .add=>some (.int k (k.wrap (a+b)))
  | .sub=>some (.int k (k.wrap (a-b)))
  | .mul=>some (.int k (k.wrap (a*b)))
  | .and=>some (.int k (cPR k a b))
  | .or=>some (.int k (orI k a b))
  | .xor=>some (.int k (aVJ k a b))
  |op=>(bOH op a b).map .bool
def eqV (k:Nat):AV->AV->Option Bool
 | .val (.int j a),.val (.int o b)=>if k=0/\j=o then some (a==b)else none
 | .val (.string a),.val (.string b)=>if k=1 then some (decide (a=b))else none
 | .val (.bool a),.val (.bool b)=>if k=2 then some (a==b)else none
 |_,_=>none
def eqA:List Nat->List AV->List AV->Option Bool
 |[],[],[]=>some true
 |k::ks,x::l,y::r=>match eqV k x y,eqA ks l r with
  |some b,some c=>some (b&&c)
  |_,_=>none
 |_,_,_=>none
def cPP (op:BinOp) (x y:AV):Option (AV×Prop):=
 match op,x,y with
  | .shl,.val (.int j a),.val (.int _ b)=>some (.val (.int j (cNT j a b)),0<=b)
  | .shr,.val (.int j a),.val (.int _ b)=>some (.val (.int j (bUO j a b)),0<=b)
  |op,.val (.int j a),.val (.int k b)=>if j=k then(match op with
   | .quo=>some (.val (.int j (j.wrap (a.tdiv b))),b≠0)
   | .rem=>some (.val (.int j (a.tmod b)),b≠0)
   |op=>(cGO op j a b).map fun v=>(.val v,True))else none
  | .eql,.val (.string a),.val (.string b)=>some (.val (.bool (decide (a=b))),True)
  | .neq,.val (.string a),.val (.string b)=>some (.val (.bool (!decide (a=b))),True)
  | .add,.val (.string a),.val (.string b)=>some (.val (.string (a++b)),a.size+b.size<=4611686018427387904)
  | .lss,.val (.string a),.val (.string b)=>some (.val (.bool (Op.bytesLess a.toList b.toList)),True)
  | .gtr,.val (.string a),.val (.string b)=>some (.val (.bool (!(Op.bytesLess a.toList b.toList||a.toList==b.toList))),True)
  |_,_,_=>none
def aKI:AV->Option (List (List AV))
 | .rd _ rows| .fx _ rows| .own _ _ rows=>some rows
 | .val (.slice none 0 0)=>some []
 |_=>none
def callee:AV->Option (FuncId×List AV)
 | .val (.func (.func f) first o)=>if first.isEmpty/\o.isEmpty/\f<YB then some (f,[])else none
 | .val (.func (.yield l) first o)=>if first.isEmpty/\o.isEmpty then some (YB+l,[])else none
 | .clo (.func f) o=>if f<YB then some (f,o)else none
 | .clo (.methodOf f _) _=>if f<YB then some (f,[])else none
 |_=>none
def lE:AV->List AV
 | .clo (.methodOf _ _) l=>l
 |_=>[]
def bSR (o:Bool) (x:Operand):List AV->Option Eff
 |[v]=>if o then some {out:=v,dem:=gK x}else some {out:=dem v}
 |_=>none
def aUM (d:Option Nat) (g:Nat->Option Blk) (out:Nat->AV) (k:Blk) (ob:Prop):Option Eff:=
 match d with
  |some d=>match g d with
   |none=>some {out:=out d,blk:=some (d,k),ob:=ob}
   |some _=>none
  |none=>none
def cMG (d:Option Nat) (e:TypeId) (g:Nat->Option Blk):List AV->Option Eff
 |[v]=>match cellsOf v with
  |some cs=>aUM d g (fun d=>.ptr d 0) (.cells e (cs.map Aw.dem)) True
  |none=>none
 |_=>none
def bEX (zero:List Value) (ps:List (Nat×Nat×Operand)) (vs:List AV):Option Eff:=
 match aTL (zero.map .val) ((ps.zip vs).map fun(p,v)=>(p.1,p.2.1,v))with
  |some l=>some {out:=.agg l}
  |none=>none
def aPM (e:TypeId) (w:Nat) (zero:List Value) (n:Nat) (ps:List (Nat×Operand)) (vs:List AV):Option Eff:=
 if n*w<=16777216/\0<w/\zero.length=w/\zero.all Value.oneCell'=true/\aW vs=true then
  match aTL ((List.replicate n (zero.map AV.val)).flatten) ((ps.zip vs).map fun(p,v)=>(p.1*w,w,v))with
   |some l=>some {out:=.own e w (chunk w n l)}
   |none=>none
 else none
def aJH (e:TypeId) (w:Nat) (vs:List AV):Option Eff:=if 0<w/\vs.isEmpty=true then some {out:=.own e w []}else none
def wQ (n:Nat) (o:Bool) (off:Nat) (cs:List AV):Option AV:=
 if o then(if off+n<=cs.length then some (.agg (((cs.drop off).take n).map Aw.dem))else none)else(cs[off]?).map Aw.dem
def bBG (n:Nat) (o A:Bool) (g:Nat->Option Blk):List AV->Option Eff
 |[.ptr b off]=>match g b with
  |some (.cells _ cs)=>if A then(match cs[off]? with
    |some y=>if o then none else some {out:=y,dem:=some (.c b off)}
    |none=>none)
   else(match wQ n o off cs with
    |some y=>some {out:=y}
    |none=>none)
  |_=>none
 |[.elt _ rows i k]=>match rows[i]? with
  |some r=>match wQ n o k r with
   |some y=>some {out:=y}
   |none=>none
  |none=>none
 |_=>none
def bFX:Operand->Option Nat
 | .tmp t=>some t
 |_=>none
def aPL (n:Nat) (b off:Nat) (e:TypeId) (cs:List AV) (v:AV):Option Eff:=
 match cellsOf v with
  |some ns=>match aAD cs off n (ns.map Aw.dem)with
   |some cs'=>some {out:=.unk,blk:=some (b,.cells e cs')}
   |none=>none
  |none=>none
def bEV (n:Nat) (o:Bool) (A:Operand) (g:Nat->Option Blk):List AV->Option Eff
 |[.ptr b off,v]=>match g b with
  |some (.cells e cs)=>match v,bFX A,o with
   | .own D w rows,some t,true=>if n=1/\off<cs.length then some {out:=.unk,blk:=some (b,.cells e (cs.set off (.own D w rows))),dem:=some (.t t)}else none
   |v,_,_=>aPL n b off e cs v
  |_=>none
 |_=>none
def cMH (op:BinOp):List AV->Option Eff
 |[x,y]=>match cPP op x y with
  |some r=>some {out:=r.1,ob:=r.2}
  |none=>none
 |_=>none
def cMD (neg:Bool) (ks:List Nat):List AV->Option Eff
 |[.agg l,.agg r]=>match eqA ks l r with
  |some b=>some {out:=.val (.bool (if neg then !b else b))}
  |none=>none
 |_=>none
def cME (neg:Bool):List AV->Option Eff
 |[.val (.bool a),.val (.bool b)]=>some {out:=.val (.bool (if neg then !(a==b)else a==b))}
 |_=>none
def aUn (op:UnOp):List AV->Option Eff
 |[.val (.bool b)]=>match op with
  | .not=>some {out:=.val (.bool !b)}
  |_=>none
 |[.val (.int k n)]=>match op with
  | .neg=>some {out:=.val (.int k (k.wrap (0-n)))}
  | .xor=>some {out:=.val (.int k (bEI k n))}
  |_=>none
 |_=>none
def bSS (k:IntKind):List AV->Option Eff
 |[.val (.int _ n)]=>some {out:=.val (.int k (k.wrap n))}
 |_=>none
def bSM (d:Option Nat) (e:TypeId) (w bytes:Nat) (zero:List Value) (g:Nat->Option Blk):List AV->Option Eff
 |[.val (.int .i64 l),.val (.int .i64 c)]=>if 0<w/\zero.length=w/\zero.all Value.oneCell'=true then
  aUM d g (fun d=>.vec d w 0 l.toNat c.toNat) (.cells e ((List.replicate c.toNat (zero.map AV.val)).flatten)) (0<=l/\l<=c/\c*bytes<=140737488355328/\c<=4611686018427387904)
  else none
 |_=>none
def bRP (e:TypeId) (w:Nat):AV->Option (List (List AV))
 | .own o w' rows=>if o=e/\w'=w then some rows else none
 | .fx w' rows=>if w'=w then some rows else none
 | .val (.slice none 0 0)=>some []
 |_=>none
def aDM (w:Nat):AV->Option (List (List AV))
 | .rd w' rows=>if w'=w then some rows else none
 | .fx w' rows=>if w'=w then some rows else none
 | .own _ w' rows=>if w'=w then some rows else none
 | .val (.slice none 0 0)=>some []
 |_=>none
def bnd (b:Bool) (vs:List AV):Option (Option Int×List AV):=
 match b with
  |false=>some (none,vs)
  |true=>match vs with
   | .val (.int .i64 n)::r=>some (some n,r)
   |_=>none
def bGB {α:Type} (h:Option Int) (l:List α):List α:=match h with|some h=>l.take h.toNat|none=>l
def bJF {α:Type} (h:Option Int) (l:List α):List α:=match h with|some h=>l.drop h.toNat|none=>l
def cLU (w:Nat) (o hi mx:Bool):List AV->Option Eff
 |x::vs=>match aDM w x,bnd o vs with
  |some rows,some (l,vs)=>match bnd hi vs with
   |some (h,vs)=>match bnd mx vs with
    |some (none,_)=>some {out:=.rd w (bJF l (bGB h rows)),ob:=0<=l.getD 0/\l.getD 0<=h.getD rows.length/\h.getD rows.length<=rows.length}
    |some (some m,_)=>some {out:=.fx w (bJF l (bGB h rows)),ob:=0<=l.getD 0/\l.getD 0<=h.getD rows.length/\h.getD rows.length<=rows.length/\h=some m}
    |none=>none
   |none=>none
  |_,_=>none
 |_=>none
def bSK (o hi:Bool):List AV->Option Eff
 | .val (.string s)::vs=>match bnd o vs with
  |some (l,vs)=>match bnd hi vs with
   |some (h,_)=>some {out:=.val (.string (s.extract (l.getD 0).toNat (h.getD s.size).toNat)),ob:=0<=l.getD 0/\l.getD 0<=h.getD s.size/\h.getD s.size<=s.size}
   |none=>none
  |none=>none
 |_=>none
def cMB (off:Nat):List AV->Option Eff
 |[.ptr b o]=>some {out:=.ptr b (o+off)}
 |[.elt w rows i k]=>some {out:=.elt w rows i (k+off)}
 |_=>none
def cMA (off n:Nat) (o:Bool):List AV->Option Eff
 |[.agg l]=>match wQ n o off l with
  |some y=>some {out:=y}
  |none=>none
 |_=>none
def cLZ (w:Nat):List AV->Option Eff
 |[x,.val (.int _ i)]=>match x with
  | .vec b w' off n _=>if w'=w then some {out:=.ptr b (off+i.toNat*w),ob:=0<=i/\i<n}else none
  | .rd w' rows=>if w'=w then some {out:=.elt w rows i.toNat 0,ob:=0<=i/\i<rows.length}else none
  | .fx w' rows=>if w'=w then some {out:=.elt w rows i.toNat 0,ob:=0<=i/\i<rows.length}else none
  | .own _ w' rows=>if w'=w then some {out:=.elt w rows i.toNat 0,ob:=0<=i/\i<rows.length}else none
  |_=>none
 |_=>none
def bSP:List AV->Option Eff
 |[.val (.string s),.val (.int _ i)]=>some {out:=.val (.int .u8 (s.get! i.toNat).toNat),ob:=0<=i/\i<s.size}
 |_=>none
def aEW (zero:Value) (ok:Bool) (k:Value) (ks:List Value) (vs:List AV):Eff:=
 match eQ k ks vs with
  |some y=>{out:=if ok then .tup [dem y,.val (.bool true)]else dem y,ob:=∀a∈ks,cW k a=true}
  |none=>{out:=if ok then .tup [.val zero,.val (.bool false)]else .val zero,ob:=∀a∈ks,cW k a=true}
def cLY (o:Nat) (zero:Value) (ok:Bool) (g:Nat->Option Blk):List AV->Option Eff
 |[.mapr b,.val k]=>match g b with
  |some (.map ks vs)=>if rH o k=true then some (aEW zero ok k ks vs)else none
  |some (.mapd ks vs)=>if rH o k=true then some (aEW zero ok k ks vs)else none
  |_=>none
 |[.rmap ks vs,.val k]=>if rH o k=true then some (aEW zero ok k ks vs)else none
 |[.kset ks u,.val k]=>if rH o k=true then some {out:=if ok then .tup [.val (if ks.any (dR k)then u k else zero),.val (.bool (ks.any (dR k)))]else .val (if ks.any (dR k)then u k else zero),ob:=(∀a∈ks,cW k a=true)}else none
 |[.val (.map none),.val k]=>if rH o k=true then some (aEW zero ok k [] [])else none
 |_=>none
def aLB (k:Value):List Value->Nat
 |a::ks=>if dR k a then 0 else aLB k ks+1
 |[]=>0
def bSN (o:Nat) (zero:Value) (d:Option Nat) (g:Nat->Option Blk):List AV->Option Eff
 |[.mapr b,.val k]=>match g b with
  |some (.map ks vs)=>if rH o k=true/\d.isSome=true then(match eQ k ks vs with
   |some y=>some {out:=y,dem:=some (.c b (aLB k ks)),ob:=∀a∈ks,cW k a=true}
   |none=>some {out:=.val zero,ob:=∀a∈ks,cW k a=true})else none
  |_=>none
 |_=>none
def bHH:AV->Bool
 | .agg _=>true
 |x=>bHI x
def bSL (o:Nat) (A:Operand) (g:Nat->Option Blk):List AV->Option Eff
 |[.mapr b,.val k,v]=>match g b with
  |some (.map ks vs)=>if bHH v=true/\rH o k=true then(match v,bFX A with
   | .own e w rows,some t=>some {out:=.unk,blk:=some (b,.map (fQ k (.own e w rows) ks vs).1 (fQ k (.own e w rows) ks vs).2),dem:=some (.t t),ob:=∀a∈ks,cW k a=true}
   |v,_=>some {out:=.unk,blk:=some (b,.map (fQ k (dem v) ks vs).1 (fQ k (dem v) ks vs).2),ob:=∀a∈ks,cW k a=true})else none
  |_=>none
 |_=>none
def cMC (i:Nat):List AV->Option Eff
 |[.tup l]=>match l[i]? with
  |some y=>some {out:=dem y}
  |none=>none
 |_=>none
def aWL (o:Nat) (g:Nat->Option Blk) (vs:List AV):Option Eff:=
 match o,vs with
  |0,[x]=>match x with
   | .vec _ _ _ n _=>some {out:=.val (.int .i64 n)}
   |x=>match aKI x with
    |some rows=>some {out:=.val (.int .i64 rows.length)}
    |none=>none
  |1,[.val (.string s)]=>some {out:=.val (.int .i64 s.size)}
  |2,[.mapr b]=>match g b with
   |some (.map ks _)=>some {out:=.val (.int .i64 ks.length)}
   |_=>none
  |2,[.rmap ks _]=>some {out:=.val (.int .i64 ks.length)}
  |_,_=>none
def cOV:AV->Bool
 | .fx _ _=>true
 |_=>false
def cMJ (e:TypeId) (w bytes:Nat) (s:Operand):List AV->Option Eff
 |[o,x]=>match bRP e w o,aDM w x with
  |some rows,some new=>if 0<w then some {out:=.own e w (rows++new),dem:=gK s,ob:=(rows.length+new.length)*bytes<=140737488355328/\rows.length+new.length<=4611686018427387904/\(if cOV o=true then new≠[]else True)}else none
  |_,_=>none
 |_=>none
def cMF (o:Nat) (g:Nat->Option Blk):List AV->Option Eff
 |[.mapr b,.val k]=>match g b with
  |some (.map ks vs)=>if rH o k=true/\(vs.all fun x=>!aG x)=true then some {out:=.val (.tuple #[]),blk:=some (b,.mapd (aAZ k ks vs).1 (aAZ k ks vs).2),ob:=∀a∈ks,cW k a=true}else none
  |some (.mapd ks vs)=>if rH o k=true/\(vs.all fun x=>!aG x)=true then some {out:=.val (.tuple #[]),blk:=some (b,.mapd (aAZ k ks vs).1 (aAZ k ks vs).2),ob:=∀a∈ks,cW k a=true}else none
  |_=>none
 |_=>none
structure aVG (P:Program) (fn:FuncId) (g:Nat->Option Blk) (us:List Nat) (vs:List AV) (r:AV) (bs H:List (Nat×Blk)) (ts:List AV):Prop where
 us:∀b k,lk bs b=some k->us.contains b=true
 have_:∀b k,lk H b=some k->g b=some k
 new:∀b k,lk bs b=some k->lk H b=none->g b=none/\(b<1000\/2000<=b)
 all:∀b k,lk H b=some k-> ∃k',lk bs b=some k'
 wk:∀b k,lk H b=some k->k.within (H.map (·.1))
 wt:bD (H.map (·.1)) ts=true
 lt:LtL vs ts
 con:KonM P fn H ts r bs
def aNT (e:TypeId) (w:Nat):AV->Option (List (List AV))
 | .own o w' rows=>if o=e/\w'=w then some rows else none
 | .val (.slice none 0 0)=>some []
 |_=>none
def aUN (P:Program) (c:Res) (d:Option Nat) (D:Option Pl) (fn:FuncId) (A:List AV):List AV->Option Eff
 |a::ts=>match c.r with
  | .own e wd o=>match aNT e wd a with
   |some rows=>if aW (ts++A)=true then some {out:=.own e wd o,dem:=D,ob:=(∀t,D=some (.t t)->d≠some t)/\ConO P fn e wd rows (ts++A) o}else none
   |none=>none
  |_=>none
 |[]=>none
def bST (P:Program) (c:Res) (d:Option Nat) (A:Option Pl) (g:Nat->Option Blk):List AV->Option Eff
 |f::vs=>match callee f with
  |some (fn,o)=>match c.bs with
   |[]=>if YB<=fn then none else if c.ow=true then(if(lE f).isEmpty=true then aUN P c d A fn o vs else none)else some {out:=c.r,ob:=∃ts,RsvL g (lE f++vs++o) ts/\(flat c.r=true\/aW (lE f++vs++o)=true)/\Con P fn ts c.r}
   |x::l=>some {out:=c.r,bs:=x::l,ob:=∃H ts,aVG P fn g c.us (lE f++vs++o) c.r (x::l) H ts}
  |none=>none
 |_=>none
def bEW (neg:Bool):List AV->Option Eff
 |[.mapr _]=>some {out:=.val (.bool neg)}
 |[.val (.map none)]=>some {out:=.val (.bool !neg)}
 |_=>none
def bKF:List AV->Option Eff
 |[.val (.bool b),x,y]=>some {out:=if b then dem x else dem y}
 |_=>none
def aMm (mx:Bool):List AV->Option Eff
 |[.val (.int j a),.val (.int k b)]=>if j=k then some {out:=.val (.int j (if mx then(if b>a then b else a)else(if b<a then b else a)))}else none
 |_=>none
def mx2 (a b:Int):Int:=if b>a then b else a
def cLX:List AV->Option Eff
 |[.val (.int j a),.val (.int k b),.val (.int l c),.val (.int m d)]=>if j=k/\j=l/\j=m then some {out:=.val (.int j (mx2 (mx2 (mx2 a b) c) d))}else none
 |_=>none
def fW (s:ByteArray):List (List AV):=s.data.toList.map fun b=>[.val (.int .u8 (b.toNat:Int))]
def bRO (e:TypeId):AV->Option (List (List AV))
 | .own o w' rows=>if o=e/\w'=1 then some rows else none
 | .val (.slice none 0 0)=>some []
 |_=>none
def bSU (e:TypeId) (bytes:Nat) (s:Operand):List AV->Option Eff
 |[o,.val (.string x)]=>match bRO e o with
  |some rows=>some {out:=.own e 1 (rows++fW x),dem:=gK s,ob:=(rows.length+x.size)*bytes<=140737488355328/\rows.length+x.size<=4611686018427387904}
  |none=>none
 |_=>none
def aHJ:List (List AV)->Option (List Int)
 |[]=>some []
 |[.val (.int .u8 n)]::r=>(aHJ r).map (n:: ·)
 |_=>none
def cLW:List AV->Option Eff
 |[.ptr b off]=>some {out:=.ptr b off}
 |[.elt w rows i k]=>some {out:=.elt w rows i k}
 |[.clo (.func f) o]=>some {out:=.clo (.func f) o}
 |_=>none
def cLV:List AV->Option Eff
 |[.val (.string s)]=>some {out:=.rd 1 (fW s)}
 |_=>none
def cMI:List AV->Option Eff
 |[x]=>match aKI x with
  |some rows=>match aHJ rows with
   |some l=>some {out:=.val (.string (strOfNums l))}
   |none=>none
  |none=>none
 |_=>none
def bKD (neg:Bool):List AV->Option Eff
 |[.val (.slice none 0 0)]=>some {out:=.val (.bool !neg)}
 |[.rd _ (_::_)]=>some {out:=.val (.bool neg)}
 |[.fx _ (_::_)]=>some {out:=.val (.bool neg)}
 |[.own _ _ (_::_)]=>some {out:=.val (.bool neg)}
 |[.vec ..]=>some {out:=.val (.bool neg)}
 |_=>none
def bKE (neg:Bool):List AV->Option Eff
 |[.ptr ..]=>some {out:=.val (.bool neg)}
 |[.elt ..]=>some {out:=.val (.bool neg)}
 |_=>none
def bSQ (n w:Nat):List AV->Option Eff
 |[.ptr b off,.val (.int _ i)]=>some {out:=.ptr b (off+i.toNat*w),ob:=0<=i/\i<n}
 |[.elt w' rows j k,.val (.int _ i)]=>some {out:=.elt w' rows j (k+i.toNat*w),ob:=0<=i/\i<n}
 |_=>none
def bSO (n w:Nat) (o:Bool):List AV->Option Eff
 |[.agg l,.val (.int _ i)]=>match wQ w o (i.toNat*w) l with
  |some y=>some {out:=y,ob:=0<=i/\i<n}
  |none=>none
 |_=>none
def bKG (neg:Bool):List AV->Option Eff
 |[.val .nilIface]=>some {out:=.val (.bool !neg)}
 |[.val (.iface ..)]=>some {out:=.val (.bool neg)}
 |[.ifc ..]=>some {out:=.val (.bool neg)}
 |_=>none
def aX1 (k:Nat) (vals:List AV):Option Eff:=
 if k=0 then cLW vals else if k=1 then cLV vals else if k=2 then cMI vals else if k=3 then bKD false vals else if k=4 then bKD true vals else if k=5 then bKE false vals else if k=6 then bKE true vals else if k=7 then bKG false vals else if k=8 then bKG true vals else none
def aGA (d:Option Nat) (g:Nat->Option Blk):List AV->Option Eff
 |[]=>aUM d g (fun d=>.mapr d) (.map [] []) True
 |[.val (.int _ _)]=>aUM d g (fun d=>.mapr d) (.map [] []) True
 |_=>none
def act (P:Program) (r:Res) (d:Option Nat) (I:AOp) (vals:List AV) (g:Nat->Option Blk):Option Eff:=
 match I with
  | .copy A x=>bSR A x vals
  | .box e _=>cMG d e g vals
  | .alloc e zero=>if zero.all Value.oneCell'=true then aUM d g (fun d=>.ptr d 0) (.cells e (zero.map .val)) True else none
  | .build zero ps=>bEX zero ps vals
  | .bslice e w zero n ps=>if n=0 then aJH e w vals else aPM e w zero n ps vals
  | .load n D A _=>bBG n D A g vals
  | .store n A _ E=>bEV n A E g vals
  | .bin op _ _=>cMH op vals
  | .eqg neg ks _ _=>cMD neg ks vals
  | .eqb neg _ _=>cME neg vals
  | .un op _=>aUn op vals
  | .conv k _=>bSS k vals
  | .mkf fn _=>some {out:=.clo fn vals}
  | .mkmap _=>aGA d g vals
  | .mksl e w bytes zero _ _=>bSM d e w bytes zero g vals
  | .sub w _ G hi mx=>cLU w G.isSome hi.isSome mx.isSome vals
  | .subs _ G hi=>bSK G.isSome hi.isSome vals
  | .fad off _=>cMB off vals
  | .fld off n D _=>cMA off n D vals
  | .iad w _ _=>cLZ w vals
  | .idxs _ _=>bSP vals
  | .lkp o zero ok _ _=>cLY o zero ok g vals
  | .lkpt o zero _ _=>bSN o zero d g vals
  | .mupd o _ _ E=>bSL o E g vals
  | .ext _ i=>cMC i vals
  | .len o _=>aWL o g vals
  | .app e w bytes s _=>cMJ e w bytes s vals
  | .del o _ _=>cMF o g vals
  | .isnil neg _=>bEW neg vals
  | .pick _ _ _=>bKF vals
  | .mm mx _ _=>aMm mx vals
  | .mx4 _ _ _ _=>cLX vals
  | .apps e bytes s _=>bSU e bytes s vals
  | .x1 k _=>aX1 k vals
  | .iada n w _ _=>bSQ n w vals
  | .idxv n w D _ _=>bSO n w D vals
  | .call _ args=>bST P r d (args.head?.bind gK) g vals
def View.ev (V:View):Operand->AV
 | .tmp t=>V.tm t
 | .const v=>.val v
 | .global g=>.val (.pointer (some ⟨g,0,none⟩))
 | .func f=>.val (.func (.func f) #[] #[])
def bWN:AV->List Nat
 | .ptr b _=>[b]
 | .vec b ..=>[b]
 | .mapr b=>[b]
 |_=>[]
def oW (us:List Nat) (d:Option Nat) (o:AOp) (vals:List AV):List Nat:=
 match o with
  | .box .. | .alloc .. | .mkmap _| .mksl ..=>d.toList
  | .call _ _=>us
  | .load .. | .store .. | .lkp .. | .lkpt .. | .mupd .. | .del ..=>vals.flatMap bWN
  | .len A _=>if A=2 then vals.flatMap bWN else[]
  |_=>[]
def View.filt (V:View) (l:List Nat):Nat->Option Blk:=fun b=>if b∈l then V.hp b else none
def View.demP (V:View):Option Pl->View
 |none=>V
 |some p=>V.setAt p (dem (V.at p))
def View.setBO (V:View):Option (Nat×Blk)->View
 |none=>V
 |some (b,k)=>V.setB b k
def View.setBs (V:View):List (Nat×Blk)->View
 |[]=>V
 |(b,k)::r=>(V.setBs r).setB b k
def View.app (V:View) (d:Option Nat) (e:Eff):View:=(((V.demP e.dem).setBO e.blk).setBs e.bs).putO d e.out
def eX (P:Program) (c:Res) (d:Option Nat) (o:AOp) (V:View):Option Eff:=
 act P c d o (o.opds.map V.ev) (V.filt (oW c.us d o (o.opds.map V.ev)))
theorem setBs_tm (V:View):∀l:List (Nat×Blk),(V.setBs l).tm=V.tm
 |[]=>rfl
 |(b,k)::r=>by simp only[View.setBs,View.setB,setBs_tm V r]
theorem qY (V:View):∀ (l:List (Nat×Blk)) (b:Nat),(V.setBs l).hp b=match lk l b with|some k=>some k|none=>V.hp b
 |[],b=>rfl|(j,k)::r,b=>by simp only[View.setBs,View.setB,lk];by_cases e:b=j;{simp[e]};{have o:¬j=b:=fun q=>e q.symm;simp only[e,o,if_false];exact qY V r b}
theorem nT {α:Type}:∀ {l:List (Nat×α)} {b:Nat} {k:α},lk l b=some k->(l.map (·.1)).contains b=true|(j,x)::l,b,k,h=>by simp only[lk]at h;simp only[List.map_cons,List.contains_cons,Bool.or_eq_true,beq_iff_eq];split at h;{omega};{exact .inr (nT h)}
theorem jY {α:Type}:∀ {l:List (Nat×α)} {b:Nat},(l.map (·.1)).contains b=true-> ∃k,lk l b=some k|(j,x)::l,b,h=>by simp only[List.map_cons,List.contains_cons,Bool.or_eq_true,beq_iff_eq]at h;simp only[lk];by_cases e:j=b;{simp[*]};{rw[if_neg e];exact jY (h.resolve_left fun q=>e q.symm)}
end Go.Aw
end
section
namespace Go.Aw
variable [GL]
def qD (P:Program) (t:TypeId):Option Nat:=(P.info? t).map (·.size)
def bFG (P:Program) (t:TypeId):Option (List Value):=(P.info? t).bind fun i=>i.zero.map fun z=>z.cells.toList
def nU (P:Program) (t:TypeId):Option Bool:=
 match P.underlying t with
  |some (.struct _)=>some true
  |some (.array _ _)=>some true
  |some _=>some false
  |none=>none
def plainT (P:Program) (t:TypeId):Bool:=
 match P.underlying t with
  |some (.int _)=>true
  |some .string=>true
  |some .bool=>true
  |_=>false
def sH (place:Nat->Option (Nat×Nat)):List (Nat×Operand)->Option (List (Nat×Nat×Operand))
 |[]=>some []
 |(i,x)::r=>match place i,sH place r with
  |some p,some l=>some ((p.1,p.2,x)::l)
  |_,_=>none
def uT (P:Program):List Field->Nat->Option (List Nat)
 |[],_=>some []
 |f::r,n=>if f.offset=n/\f.name≠ "_" then(match P.underlying f.type,uT P r (n+1)with
  |some (.int _),some l=>some (0::l)
  |some .string,some l=>some (1::l)
  |some .bool,some l=>some (2::l)
  |_,_=>none)else none
def pX (P:Program) (t:TypeId):Option Nat:=
 match P.underlying t with
  |some (.int _)=>some 0
  |some .string=>some 1
  |some .bool=>some 2
  |_=>none
def cIO (P:Program) (neg:Bool) (op:BinOp) (t:TypeId) (x y:Operand):Option AOp:=
 match P.underlying t with
  |some (.struct fields)=>if P.stoodInHeld t=false/\P.eqGuardType P.depth t=false then(match uT P fields.toList 0 with
   |some ks=>some (.eqg neg ks x y)
   |none=>none)else none
  |some .bool=>some (.eqb neg x y)
  |some (.int _)=>some (.bin op x y)
  |some .string=>some (.bin op x y)
  |some (.map _ _)=>match y with
   | .const (.map none)=>some (.isnil neg x)
   |_=>none
  |_=>none
def vG (P:Program) (c:Call):Option AOp:=
 match c.callee with
  | .value f=>some (.call f c.args.toList)
  | .builtin .len=>match c.args.toList,c.argTypes.toList with
   |[x],[t]=>match P.underlying t with
    |some (.slice _)=>some (.len 0 x)
    |some .string=>some (.len 1 x)
    |some (.map _ _)=>some (.len 2 x)
    |_=>none
   |_,_=>none
  | .builtin .delete=>match c.args.toList,c.argTypes.toList with
   |[x,k],[t,u]=>match P.underlying t with
    |some (.map A _)=>match pX P A with
     |some D=>some (.del D x k)
     |none=>none
    |_=>none
   |_,_=>none
  | .builtin .max=>match c.args.toList with
   |[x,y]=>some (.mm true x y)
   |[x,y,z,u]=>some (.mx4 x y z u)
   |_=>none
  | .builtin .min=>match c.args.toList with
   |[x,y]=>some (.mm false x y)
   |_=>none
  | .builtin .append=>match c.args.toList,c.argTypes.toList with
   |[s,x],[t,u]=>if t=u then(match P.underlying t with
    |some (.slice e)=>match P.info? e with
     |some i=>match i.zero with
      |some z=>if z.cells.size=i.size/\z.cells.toList.all Value.oneCell'=true then some (.app e i.size i.bytes s x)else none
      |none=>none
     |none=>none
    |_=>none)else(match P.underlying t,P.underlying u with
    |some (.slice e),some .string=>match P.info? e with
     |some i=>match i.zero with
      |some z=>if i.size=1/\z.cells.size=1/\z.cells.toList.all Value.oneCell'=true then some (.apps e i.bytes s x)else none
      |none=>none
     |none=>none
    |_,_=>none)
   |_,_=>none
  |_=>none
def tr (P:Program) (E:Bool):Op->Option AOp
 | .move x=>some (.copy E x)
 | .assign x=>some (.copy E x)
 | .box e x=>some (.box e x)
 | .alloc e=>match bFG P e with
  |some z=>some (.alloc e z)
  |none=>none
 | .build t ps=>match P.info? t,P.underlying t with
  |some it,some (.struct fields)=>match it.zero,fields.toList.mapM (fun f=>(P.info? f.type).map fun i=>(f.offset,i.size))with
   |some z,some places=>if z.cells.toList.all Value.oneCell'=true then(match sH (places.toArray[·]?) ps.toList with
    |some l=>some (.build z.cells.toList l)
    |none=>none)else none
   |_,_=>none
  |some it,some (.array _ e)=>match it.zero,P.info? e with
   |some z,some I=>if z.cells.toList.all Value.oneCell'=true then(match sH (fun i=>some (i*I.size,I.size)) ps.toList with
    |some l=>some (.build z.cells.toList l)
    |none=>none)else none
   |_,_=>none
  |_,_=>none
 | .buildSlice t n ps=>match P.underlying t with
  |some (.slice e)=>match qD P e,bFG P e with
   |some w,some z=>some (.bslice e w z n ps.toList)
   |_,_=>none
  |_=>none
 | .load t x=>match nU P t,qD P t with
  |some G,some n=>some (.load n G E x)
  |_,_=>none
 | .store t x v=>match qD P t with
  |some n=>some (.store n E x v)
  |none=>none
 | .binOp op t x y _=>match op with
  | .eql=>cIO P false .eql t x y
  | .neq=>cIO P true .neq t x y
  |op=>some (.bin op x y)
 | .unOp op _ x=>some (.un op x)
 | .convert s t x=>match P.underlying s,P.underlying t with
  |some (.int _),some (.int k)=>some (.conv k x)
  |_,_=>none
 | .makeFunc fn first A=>if first.isEmpty then(match fn with| .func f=>some (.mkf (.func f) A.toList)|_=>none)else if A.isEmpty then(match fn with| .func f=>some (.mkf (.methodOf f "") first.toList)|_=>none)else none
 | .makeMap t r=>match P.underlying t with
  |some (.map _ _)=>some (.mkmap r)
  |_=>none
 | .makeSlice t l c=>match P.underlying t with
  |some (.slice e)=>match P.info? e with
   |some i=>match i.zero with
    |some z=>some (.mksl e i.size i.bytes z.cells.toList l c)
    |none=>none
   |none=>none
  |_=>none
 | .slice t x J hi mx=>match P.underlying t with
  |some (.slice e)=>match qD P e with
   |some w=>some (.sub w x J hi mx)
   |none=>none
  |some .string=>if mx.isSome then none else some (.subs x J hi)
  |_=>none
 | .fieldAddr s x f=>match P.underlying s with
  |some (.struct fields)=>match fields[f]? with
   |some f=>match qD P f.type with
    |some n=>if n=0 then none else some (.fad f.offset x)
    |none=>none
   |none=>none
  |_=>none
 | .field t x f=>match P.underlying t with
  |some (.struct fields)=>match fields[f]? with
   |some f=>match qD P f.type,nU P f.type with
    |some n,some G=>some (.fld f.offset n G x)
    |_,_=>none
   |none=>none
  |_=>none
 | .indexAddr t x i=>match P.underlying t with
  |some (.slice e)=>match qD P e with
   |some w=>if w=0 then none else some (.iad w x i)
   |none=>none
  |_=>none
 | .index t x i=>match P.underlying t with
  |some .string=>some (.idxs x i)
  |some (.array n e)=>match qD P e,nU P e with
   |some w,some G=>some (.idxv n w G x i)
   |_,_=>none
  |_=>none
 | .lookup t x k ok=>match P.underlying t with
  |some (.map key e)=>match pX P key,P.info? e with
   |some D,some i=>match i.zero with
    |some z=>if E&& !ok then some (.lkpt D z x k)else some (.lkp D z ok x k)
    |none=>none
   |_,_=>none
  |_=>none
 | .mapUpdate t m k v=>match P.underlying t with
  |some (.map key _)=>match pX P key with
   |some D=>some (.mupd D m k v)
   |none=>none
  |_=>none
 | .insert t m k v=>match P.underlying t with
  |some (.map key _)=>match pX P key with
   |some D=>some (.mupd D m k v)
   |none=>none
  |_=>none
 | .extract x i=>some (.ext x i)
 | .pick c x y=>some (.pick c x y)
 | .call c=>vG P c
 |_=>none
def trX (P:Program):Op->Option AOp
 | .nilCheck x=>some (.x1 0 x)
 | .convert s t x=>match P.underlying s,P.underlying t with
  |some .string,some (.slice e)=>(match P.underlying e with
   |some (.int .u8)=>some (.x1 1 x)
   |_=>none)
  |some (.slice e),some .string=>(match P.underlying e with
   |some (.int .u8)=>some (.x1 2 x)
   |_=>none)
  |_,_=>none
 | .binOp op t x y _=>match y,P.underlying t with
  | .const (.slice none 0 0),some (.slice _)=>(match op with
   | .eql=>some (.x1 3 x)
   | .neq=>some (.x1 4 x)
   |_=>none)
  | .const .nilIface,some (.interface _)=>(match op with
   | .eql=>some (.x1 7 x)
   | .neq=>some (.x1 8 x)
   |_=>none)
  | .const (.pointer none),some (.pointer _)=>(match op with
   | .eql=>some (.x1 5 x)
   | .neq=>some (.x1 6 x)
   |_=>none)
  |_,_=>none
 | .indexAddr t x i=>match P.underlying t with
  |some (.array n e)=>(match qD P e with
   |some w=>if w=0 then none else some (.iada n w x i)
   |none=>none)
  |_=>none
 |_=>none
def trN (P:Program) (A:Bool) (op:Op):Option AOp:=
 match trX P op with
  |some D=>some D
  |none=>tr P A op
variable {P:Program} {C:Ctx} {V:View} {a:Act} {w:World} {fz:Fz} {ρ:Ren} {o:Oper} {Q:Exit->Act->World->Prop}
abbrev fen (C:Ctx):Fence:={Fence.wide with round:=C.rd}
theorem aOB {n:Nat} {f:FuncId} {args:Array Value} {R:Ending->World->Prop}:CallsIn (fen C) n P f args w R↔Calls P f args w R:=
 ⟨fun h cs=>let⟨e,w',A,r,s,x⟩:=h.2 cs (fun _ h=>by grind [Fence.wide]);⟨e,w',A,r,comesIn_wide.1 s,x⟩,
  fun h=>⟨trivial,fun cs _=>let⟨e,w',A,r,s,x⟩:=h cs;⟨e,w',A,r,comesIn_wide.2 s,x⟩⟩⟩
theorem bVP {ρ:Operand->Value} {n:Next} {w':World} (A:(execOp ρ o).run P w=.ok n w') (G:∀d,n≠ .defer d):∀c,o.op≠ .defer c:=by intro c D;simp only[execOp,D,Sem.run_bind]at A;cases h:(resolve ρ c o.type).run P w with|ok d E=>grind [Result.andThen,Sem.run_pure]|halt x E=>simp_all
theorem aBT {next:Act->World->Prop} {n:Next} {w':World} (A:(execOp a.eval o).run P w=.ok n w') (D:∀d,n≠ .defer d) (h:o.uponIn (fen C) 0 P a next Q (.ok n w')):o.wpIn (fen C) 0 P a w next Q:=by refine⟨fun _ _=>trivial,?_⟩;grind [Oper.semAt_eq,bVP]
theorem cP {next:Act->World->Prop} {v:Value} {w':World} (A:(execOp a.eval o).run P w=.ok (.value v) w') (h:next (a.put o.dst v) w'):o.wpIn (fen C) 0 P a w next Q:=
 aBT A (by simp) h
theorem qT {next:Act->World->Prop} {f:FuncId} {args:Array Value} {w':World} (D:(execOp a.eval o).run P w=.ok (.enter f args) w') (h:Calls P f args w' fun| .returned v,A=>next (a.put o.dst v) A| .panicked chain,A=>Q (.panic chain) a A| .outgrown,_=>LetsOut Q):o.wpIn (fen C) 0 P a w next Q:=
 aBT D (by simp) ⟨by simp[Fence.wide],aOB.2 h⟩
theorem xU {next:Act->World->Prop} {w':World} (A:(execOp a.eval o).run P w=.ok .skip w') (h:next (a.put o.dst undef) w'):o.wpIn (fen C) 0 P a w next Q:=
 aBT A (by simp) h
theorem SimE.ev (h:SimE C V a w fz ρ) (x:Operand):Holds fz (V.ev x) ρ (a.eval x):=by cases x with|tmp t=>exact h.tm t|const v=>rfl|global g=>rfl|func f=>rfl
theorem SimE.evL (h:SimE C V a w fz ρ) (l:List Operand):HoldsL fz (l.map V.ev) ρ (l.map a.eval):=by induction l with|nil=>rfl|cons x l A=>simp only[List.map_cons,HoldsL];exact⟨_,_,rfl,h.ev x,A⟩
def cI (P:Program) (C:Ctx) (V:View) (a:Act) (w:World) (o:Oper) (A:Eff):Prop:=
 ∀Q:Exit->Act->World->Prop,o.wpIn (fen C) 0 P a w (fun a' w'=>Sim C (V.app o.dst A) a' w') Q
theorem aF (h:SimE C V a w fz ρ) {v:Value} {x:AV} {ob:Prop} (A:(execOp a.eval o).run P w=.ok (.value v) w) (D:∀i,o.dst=some i->i<C.N) (E:Holds fz x ρ v) (G:aG x=false): cI P C V a w o {out:=x,ob:=ob}:=fun _=>cP A ⟨fz,ρ,h.putO D E G⟩
theorem aQH (h:SimE C V a w fz ρ) {I:Bool} {x:Operand} (E:o.op=.move x\/o.op=.assign x) {J:Eff} (he:bSR I x [V.ev x]=some J) (A:∀i,o.dst=some i->i<C.N) (G:∀t,x=.tmp t->o.dst≠some t):cI P C V a w o J:=by
 have K:(execOp a.eval o).run P w=.ok (.value (a.eval x)) w:=by rcases E with e|e<;>simp[execOp,e]
 simp only[bSR]at he;cases I with
 |false=>simp only[Bool.false_eq_true,if_false,Option.some.injEq]at he;subst he;exact aF h K A (h.ev x).dem (cV _)
 |true=>
  simp only[if_true,Option.some.injEq]at he;subst he
  intro Q
  refine cP K ⟨fz,ρ,?_⟩
  cases x with
   |tmp t=>
    cases D:o.dst with
     |none=>exact h.demote (p:=.t t) trivial
     |some d=>
      have:=h.take (p:=.t t) trivial (d:=d) (A d D) (fun e=>G t rfl (by simp_all)) (h.tm t)
      exact this
   |const v=>exact h.putO A (h.ev (.const v)) rfl
   |global g=>exact h.putO A (h.ev (.global g)) rfl
   |func f=>exact h.putO A (h.ev (.func f)) rfl
end Go.Aw
end
