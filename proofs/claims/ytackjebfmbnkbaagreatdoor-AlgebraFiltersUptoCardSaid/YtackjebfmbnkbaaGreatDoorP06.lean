/- Each operation, by its translation. -/
import Derived.Test.YtackjebfmbnkbaaGreatDoorP05
set_option linter.unusedSimpArgs false
set_option linter.unusedVariables false
set_option linter.unusedSectionVars false
section
namespace Go.Aw
variable [GL]
variable {P:Program} {C:Ctx} {V:View} {a:Act} {w:World} {fz:Fz} {ρ:Ren} {o:Oper} {Q:Exit->Act->World->Prop}
def aEE (d:Option Nat):Operand->Bool
 | .tmp t=>decide (d≠some t)
 |_=>true
def pW (N:Nat) (d:Option Nat) (A:AOp):Bool:=
 (match d with|some i=>decide (i<N)|none=>true)&&
 (match A with
  | .copy _ x=>aEE d x
  | .store _ _ _ v=>aEE d v
  | .mupd _ _ _ v=>aEE d v
  | .app _ _ _ s _=>aEE d s
  | .apps _ _ s _=>aEE d s
  |_=>true)
theorem lP {d:Option Nat} {x:Operand} (h:aEE d x=true):∀t,x=.tmp t->d≠some t:=by grind [aEE]
theorem bBQ (h:SimE C V a w fz ρ) {c:Call} (E:o.op=.call c) {W:AOp} (A:vG P c=some W) {cr:Res} {Y:Eff} (he:eX P cr o.dst W V=some Y) (L:Y.ob) (K:∀i,o.dst=some i->i<C.N) (U:pW C.N o.dst W=true):cI P C V a w o Y:=by
 obtain⟨Z,args,M⟩:=c;have O:∀l b k,V.filt l b=some k->V.hp b=some k:=fun l b k hh=>aZX hh;cases Z with
 |value f=>
  simp only[vG,Option.some.injEq]at A;subst A
  exact bLT (cr:=cr) (g:=V.filt cr.us) h E (O _) (fun b hb hn=>by simp_all [List.contains_iff_mem,View.filt]) (by assumption) L K
 |invoke r m=>simp[vG]at A
 |builtin b=>
  cases b with
   |len=>
    simp only[vG]at A
    split at A
    ·rename_i x t J S
     have D:args= #[x]:=by apply Array.toList_inj.1;simpa using J
     have G:M= #[t]:=by apply Array.toList_inj.1;simpa using S
     subst D;subst G
     split at A
     ·rename_i e hu
      cases A
      exact aKA h E (.inl ⟨rfl,e,hu⟩) (O _) (by simpa[eX,act,AOp.opds]using he) K
     ·rename_i hu
      cases A
      exact aKA h E (.inr (.inl ⟨rfl,hu⟩)) (O _) (by simpa[eX,act,AOp.opds]using he) K
     ·rename_i k e hu
      cases A
      exact aKA h E (.inr (.inr ⟨rfl,k,e,hu⟩)) (O _) (by simpa[eX,act,AOp.opds]using he) K
     ·cases A
    ·cases A
   |max=>
    simp only[vG]at A
    split at A
    ·rename_i x y J
     have D:args= #[x,y]:=by apply Array.toList_inj.1;simpa using J
     subst D
     cases A
     exact bGF (mx:=true) h E (by simpa[eX,act,AOp.opds]using he) K
    ·rename_i x y z u J
     have D:args= #[x,y,z,u]:=by apply Array.toList_inj.1;simpa using J
     subst D
     cases A
     exact bUA h E (by simpa[eX,act,AOp.opds]using he) K
    ·cases A
   |min=>
    simp only[vG]at A
    split at A
    ·rename_i x y J
     have D:args= #[x,y]:=by apply Array.toList_inj.1;simpa using J
     subst D
     cases A
     exact bGF (mx:=false) h E (by simpa[eX,act,AOp.opds]using he) K
    ·cases A
   |delete=>
    simp only[vG]at A
    split at A
    ·rename_i x k t u J S
     have D:args= #[x,k]:=by apply Array.toList_inj.1;simpa using J
     have G:M= #[t,u]:=by apply Array.toList_inj.1;simpa using S
     subst D;subst G
     split at A
     ·rename_i kt e hu
      split at A
      ·rename_i kd aa
       cases A
       exact bUK h E hu aa (O _) (by simpa[eX,act,AOp.opds]using he) L K
      ·cases A
     ·cases A
    ·cases A
   |append=>
    simp only[vG]at A
    split at A
    ·rename_i s x t u J S
     have D:args= #[s,x]:=by apply Array.toList_inj.1;simpa using J
     have G:M= #[t,u]:=by apply Array.toList_inj.1;simpa using S
     subst D;subst G
     split at A
     ·rename_i ab
      subst ab
      split at A
      ·rename_i e hu
       split at A
       ·rename_i i hi
        split at A
        ·rename_i z hz
         split at A
         ·rename_i I
          cases A
          simp only[pW,Bool.and_eq_true]at U
          exact bUN h E hu hi hz I.1 I.2 (by simpa[eX,act,AOp.opds]using he) L K (lP U.2)
         ·cases A
        ·cases A
       ·cases A
      ·cases A
     ·split at A
      ·rename_i e hu ad
       split at A
       ·rename_i i hi
        split at A
        ·rename_i z hz
         split at A
         ·rename_i I
          cases A
          simp only[pW,Bool.and_eq_true]at U
          exact bLU h E hu ad hi hz I.1 I.2.1 I.2.2 (by simpa[eX,act,AOp.opds]using he) L K (lP U.2)
         ·cases A
        ·cases A
       ·cases A
      ·cases A
    ·cases A
   |_=>simp[vG]at A
theorem cCK (h:SimE C V a w fz ρ) {tk:Bool} {W:AOp} (A:tr P tk o.op=some W) {cr:Res} {ef:Eff} (he:eX P cr o.dst W V=some ef) (I:ef.ob) (L:pW C.N o.dst W=true):cI P C V a w o ef:=by
 have Y:∀l b k,V.filt l b=some k->V.hp b=some k:=fun l b k hh=>aZX hh;have E:∀i,o.dst=some i->i<C.N:=by intro i hi;simp only[pW,hi,Bool.and_eq_true,decide_eq_true_eq]at L;exact L.1
 have K:∀us d vals,o.dst=some d->(∀us d vals,oW us d W vals=d.toList)->V.filt (oW us o.dst W vals) d=V.hp d:=by intro us d vals G ht;rw[G,ht];simp[View.filt]
 cases D:o.op<;>rw[D]at A<;>simp only[tr]at A<;>try(cases A;done)
 case move x=>cases A;simp only[pW,Bool.and_eq_true]at L;exact aQH h (.inl D) he E (lP L.2)
 case assign x=>cases A;simp only[pW,Bool.and_eq_true]at L;exact aQH h (.inr D) he E (lP L.2)
 case alloc e=>split at A;{rename_i z M;cases A;simp only[eX,act]at he;split at he;{rename_i J;exact bGK h D M (fun d G=>K cr.us d _ G (fun _ _ _=>rfl)) J he E};{cases he}};{cases A}
 case box e x=>cases A;exact bUL h D (fun d G=>K cr.us d _ G (fun _ _ _=>rfl)) he E
 case build t ps=>split at A;{rename_i it fields hit hu;split at A;{rename_i z places M ah;split at A;{rename_i J;split at A;{rename_i l hl;cases A;exact aMQ h D (fun parts=>by simp[Program.built,hit,hu,M,ah]) J hl (by simpa[eX,act,AOp.opds,Function.comp_def]using he) E};{cases A}};{cases A}};{cases A}};{rename_i it n e hit hu;split at A;{rename_i z ie M aj;split at A;{rename_i J;split at A;{rename_i l hl;cases A;exact aMQ h D (fun parts=>by simp[Program.built,hit,hu,M,aj]) J hl (by simpa[eX,act,AOp.opds,Function.comp_def]using he) E};{cases A}};{cases A}};{cases A}};{cases A}
 case buildSlice t n ps=>split at A;{rename_i e hu;split at A;{rename_i wd z hw M;cases A;obtain⟨i,zv,hi,ak,rfl⟩:=aPN M;have al:i.size=wd:=(by simpa[qD,hi]using hw);subst al;simp only[eX,act,AOp.opds,List.map_map]at he;split at he;{rename_i U;subst U;exact aVO h D hu hi he E};{exact bCB h D hu hi ak he E}};{cases A}};{cases A}
 case load t x=>split at A;{rename_i ag n O U;cases A;exact bLN h D O U (Y _) he E};{cases A}
 case store t x v=>split at A;{rename_i n U;cases A;simp only[pW,Bool.and_eq_true]at L;exact bGE h D U (Y _) he E (lP L.2)};{cases A}
 case binOp op t x y u=>have Z:∀neg,op=(if neg then .neq else .eql)->cIO P neg op t x y=some W->cI P C V a w o ef:=(by intro neg S A;simp only[cIO]at A;split at A;{rename_i fields hu;split at A;{rename_i hc;split at A;{rename_i ks am;cases A;exact bUI h S D hu hc.1 hc.2 am he E};{cases A}};{cases A}};{rename_i hu;cases A;exact bUJ h S D hu he E};{cases A;exact aKB h D he I E};{cases A;exact aKB h D he I E};{rename_i kt e hu;split at A;{cases A;exact bGH h S D hu he E};{cases A}};{cases A});cases op with|eql=>exact Z false rfl A|neq=>exact Z true rfl A|_=>cases A;exact aKB h D he I E
 case unOp op t x=>cases A;exact cBB h D he E
 case convert s t x=>split at A;{rename_i k0 k hs ht;cases A;exact bLS h D hs ht he E};{cases A}
 case makeFunc fn first aa=>split at A;{rename_i hf;(have:first= #[]:=by simpa using hf);subst this;split at A;{cases A;simp only[eX,act,Option.some.injEq]at he;subst he;exact bUB h D E};{cases A}};{split at A;{rename_i hc;have:aa= #[]:=(by simpa using hc);subst this;split at A;{cases A;simp only[eX,act,Option.some.injEq]at he;subst he;exact bUC h D E};{cases A}};{cases A}}
 case makeMap t r=>split at A;{rename_i k e hu;cases A;exact bGG h D hu (fun d G=>K cr.us d _ G (fun _ _ _=>rfl)) he E};{cases A}
 case makeSlice t l c=>split at A;{rename_i e hu;split at A;{rename_i i hi;split at A;{rename_i z M;cases A;exact bLM h D hu hi M (fun d G=>K cr.us d _ G (fun _ _ _=>rfl)) he I E};{cases A}};{cases A}};{cases A}
 case slice t x lo hi mx=>split at A;{rename_i e hu;split at A;{rename_i wd hw;cases A;exact bTX h D hu hw he I E};{cases A}};{rename_i hu;split at A;{cases A};{rename_i aw;cases A;have:mx=none:=(by cases mx<;>simp_all);subst this;exact bLK h D hu he I E}};{cases A}
 case fieldAddr s x f=>split at A;{rename_i fields hu;split at A;{rename_i fd hf;split at A;{rename_i n U;split at A;{cases A};{rename_i an;cases A;exact bUG h D hu hf U an he E}};{cases A}};{cases A}};{cases A}
 case field t x f=>split at A;{rename_i fields hu;split at A;{rename_i fd hf;split at A;{rename_i n ag U O;cases A;exact bUF h D hu hf U O he E};{cases A}};{cases A}};{cases A}
 case indexAddr t x i=>split at A;{rename_i e hu;split at A;{rename_i wd hw;split at A;{cases A};{cases A;exact bUE h D hu hw he I E}};{cases A}};{cases A}
 case index t x i=>split at A;{rename_i hu;cases A;exact bLQ h D hu he I E};{rename_i n e hu;split at A;{rename_i w' ag hw O;cases A;exact bLP h D hu hw O he I E};{cases A}};{cases A}
 case lookup t x k ok=>split at A;{rename_i key e hu;split at A;{rename_i kd i hk hi;split at A;{rename_i z M;split at A;{rename_i ac;cases A;simp only[Bool.and_eq_true,Bool.not_eq_true']at ac;rw[ac.2]at D;exact bLO h D hu hk hi M (Y _) he I E};{cases A;exact bUD h D hu hk hi M (Y _) he I E}};{cases A}};{cases A}};{cases A}
 case mapUpdate t m k v=>split at A;{rename_i key e hu;split at A;{rename_i kd hk;cases A;simp only[pW,Bool.and_eq_true]at L;exact aQF h (.inl D) hu hk (Y _) he I E (lP L.2)};{cases A}};{cases A}
 case insert t m k v=>split at A;{rename_i key e hu;split at A;{rename_i kd hk;cases A;simp only[pW,Bool.and_eq_true]at L;exact aQF h (.inr D) hu hk (Y _) he I E (lP L.2)};{cases A}};{cases A}
 case extract x i=>cases A;exact bUH h D he E
 case pick c x y=>cases A;exact bLL h D he E
 grind [bBQ]
theorem bVH (h:SimE C V a w fz ρ) {I:AOp} (A:trX P o.op=some I) {cr:Res} {J:Eff} (he:eX P cr o.dst I V=some J) (M:J.ob) (L:pW C.N o.dst I=true):cI P C V a w o J:=by
 have G:∀i,o.dst=some i->i<C.N:=by intro i hi;simp only[pW,hi,Bool.and_eq_true,decide_eq_true_eq]at L;exact L.1
 cases D:o.op<;>rw[D]at A<;>simp only[trX]at A<;>try(cases A;done)
 case nilCheck x=>cases A;exact bTZ h D (by simpa[eX,act,AOp.opds,aX1]using he) G
 case convert s t x=>split at A;{rename_i e K E;split at A;{rename_i hu;cases A;exact bTY h D K hu E (by simpa[eX,act,AOp.opds,aX1]using he) G};{cases A}};{rename_i e K E;split at A;{rename_i hu;cases A;exact bUM h D K hu E (by simpa[eX,act,AOp.opds,aX1]using he) G};{cases A}};{cases A}
 case binOp op t x y u=>split at A;{rename_i e E;split at A;{cases A;exact aQD h (neg:=false) rfl D E (by simpa[eX,act,AOp.opds,aX1]using he) G};{cases A;exact aQD h (neg:=true) rfl D E (by simpa[eX,act,AOp.opds,aX1]using he) G};{cases A}};{rename_i e E;split at A;{cases A;exact aQG h (neg:=false) rfl D E (by simpa[eX,act,AOp.opds,aX1]using he) G};{cases A;exact aQG h (neg:=true) rfl D E (by simpa[eX,act,AOp.opds,aX1]using he) G};{cases A}};{rename_i e E;split at A;{cases A;exact aQE h (neg:=false) rfl D E (by simpa[eX,act,AOp.opds,aX1]using he) G};{cases A;exact aQE h (neg:=true) rfl D E (by simpa[eX,act,AOp.opds,aX1]using he) G};{cases A}};{cases A}
 grind [bLR,eX,act,AOp.opds]
theorem aYH (h:SimE C V a w fz ρ) {E:Bool} {A:AOp} (G:trN P E o.op=some A) {cr:Res} {D:Eff} (he:eX P cr o.dst A V=some D) (I:D.ob) (J:pW C.N o.dst A=true):cI P C V a w o D:=by grind [trN,bVH,cCK]
end Go.Aw
end
section
namespace Go.Aw
variable [GL]
variable {P:Program} {C:Ctx} {V:View} {a:Act} {w:World} {fz:Fz} {ρ:Ren} {o:Oper} {Q:Exit->Act->World->Prop}
structure ROp where
 dst:Option Nat
 op:AOp
 after:List Nat
 guard:Option (Nat×Bool)
 deriving Inhabited
def iX (o:Oper):List Nat:=o.after.toList.filterMap fun e=>if Region.binds .any e then some e.on else none
def sW (P:Program) (D:Bool) (ops:Array Oper) (o:Oper):Option ROp:=
 match trN P D o.op with
  |some A=>match o.guard with
   |none=>some {dst:=o.dst,op:=A,after:=iX o,guard:=none}
   |some (g,want)=>match(ops[g]?).bind (·.dst)with
    |some d=>some {dst:=o.dst,op:=A,after:=iX o,guard:=some (d,want)}
    |none=>none
  |none=>none
def lN (P:Program) (ops:Array Oper):List Bool->List Oper->Option (List ROp)
 |_,[]=>some []
 |A,o::os=>match sW P (A.headD false) ops o,lN P ops A.tail os with
  |some r,some l=>some (r::l)
  |_,_=>none
def Skipped:Eff:={out:=.val (.tuple #[])}
def qM (P:Program) (c:Res) (r:ROp) (V:View):Option Eff:=
 match r.guard with
  |none=>eX P c r.dst r.op V
  |some (d,want)=>match V.tm d with
   | .val (.bool b)=>if b=want then eX P c r.dst r.op V else some Skipped
   | .val (.tuple _)=>some Skipped
   |_=>none
theorem qA:∀ (os:List Oper) (ops:Array Oper) (A:List Bool) (L:List ROp),lN P ops A os=some L->L.length=os.length/\ ∀ (i:Nat) (o:Oper),os[i]? =some o-> ∃D r,L[i]? =some r/\sW P D ops o=some r
 |[],ops,A,L,h=>by simp_all [lN]
 |o::os,ops,A,L,h=>by simp only[lN]at h;split at h;{rename_i r l E G;cases h;obtain⟨h1,I⟩:=qA os ops A.tail l G;refine⟨by simp[h1],fun i J hi=>?_⟩;cases i with|zero=>simp at hi;subst hi;exact⟨_,r,by simp,E⟩|succ i=>simp at hi;obtain⟨D,r',e1,K⟩:=I i J hi;exact⟨D,r',by simpa using e1,K⟩};{cases h}
theorem aOZ {ops:Array Oper} {i:Nat} (ho:ops[i]? =some o) {tk:Bool} {r:ROp} (A:sW P tk ops o=some r) (h:Sim C V a w) {c:Res} {e:Eff} (he:qM P c r V=some e) (L:e.ob) (S:pW C.N r.dst r.op=true) {K:Act->World->Prop} (U:∀a' w',Sim C (V.app r.dst e) a' w'->K a' w'):wpOpIn (fen C) 0 P ops Q i K a w:=by obtain⟨fz,ρ,h⟩:=h;simp only[sW]at A;split at A;{rename_i ao M;unfold wpOpIn;rw[ho];simp only;have Z:∀j,o.dst=some j->pW C.N o.dst ao=true->j<C.N:=(by intro j O hh;simp only[pW,O,Bool.and_eq_true,decide_eq_true_eq]at hh;exact hh.1);cases D:o.guard with|none=>rw[D]at A;cases A;rw[if_pos (by simp[Region.wanted,D])];simp only[qM]at he;exact Oper.wpIn_mono U (aYH h M he L S Q)|some gw=>obtain⟨g,want⟩:=gw;rw[D]at A;simp only at A;split at A;{rename_i d G;cases A;simp only[qM]at he;split at he;{rename_i b I;have E:=h.tm d;rw[I]at E;simp only[Holds]at E;have W:yielded ops a.tmps g=some b:=(by have:a.tmps[d]? =some (.bool b):=(by rw[Array.getD_eq_getD_getElem?]at E;cases Y:a.tmps[d]? with|none=>rw[Y]at E;simp[undef]at E|some v=>rw[Y]at E;simp at E;rw[E]);simp[yielded,G,this]);split at he;{rename_i J;subst J;rw[if_pos (by simp[Region.wanted,D,W])];exact Oper.wpIn_mono U (aYH h M he L S Q)};{rename_i J;cases he;rw[if_neg (by simp[Region.wanted,D,W,J])];exact⟨fun _ _=>trivial,U _ _ ⟨fz,ρ,h.putO (x:=.val undef) (v:=undef) (fun j O=>Z j O S) (by simp only[Holds]) rfl⟩⟩}};{rename_i vs I;have E:=h.tm d;rw[I]at E;simp only[Holds]at E;have W:yielded ops a.tmps g=none:=(by have:∀v,a.tmps[d]? =some v->v=.tuple vs:=(by intro v hv;rw[Array.getD_eq_getD_getElem?,hv]at E;simpa using E);simp only[yielded,G,Option.bind_some];cases Y:a.tmps[d]? with|none=>rfl|some v=>rw[this v Y]);cases he;rw[if_neg (by simp[Region.wanted,D,W])];exact⟨fun _ _=>trivial,U _ _ ⟨fz,ρ,h.putO (x:=.val undef) (v:=undef) (fun j O=>Z j O S) (by simp only[Holds]) rfl⟩⟩};{cases he}};{cases A}};{cases A}
def eC:List ROp->List Eff->(Nat->Bool)->Nat->View->View
 |r::L,e::E,A,k,V=>eC L E A (k+1) (if A k then V.app r.dst e else V)
 |_,_,_,_,V=>V
def bEQ (d:Option Nat) (e:Eff) (t:Nat) (cur:AV):AV:=if d=some t then e.out else if e.dem=some (.t t)then dem cur else cur
def bJX (e:Eff) (b:Nat) (cur:Option Blk):Option Blk:=
 match e.blk with
  |some (A,k)=>if b=A then some k else(match e.dem with
   |some (.c A j)=>if b=A then cur.map (fun k=>k.set j (dem (k.at j)))else cur
   |_=>cur)
  |none=>match e.dem with
   |some (.c A j)=>if b=A then cur.map (fun k=>k.set j (dem (k.at j)))else cur
   |_=>cur
def bER (e:Eff) (b:Nat) (cur:Option Blk):Option Blk:=match lk e.bs b with|some k=>some k|none=>bJX e b cur
theorem nZ (V:View) (d:Option Nat) (e:Eff) (t:Nat):(V.app d e).tm t=bEQ d e t (V.tm t):=by
 have h1:∀V:View,((V.setBO e.blk).setBs e.bs).tm=V.tm:=by intro V;rw[setBs_tm];cases e.blk<;>rfl
 have A:(V.demP e.dem).tm t=if e.dem=some (.t t)then dem (V.tm t)else V.tm t:=by cases e.dem with|none=>rfl|some p=>cases p with|t i=>simp only[View.demP,View.setAt,View.put,View.at,Option.some.injEq,Pl.t.injEq];grind|c b j=>simp[View.demP,View.tm_setAt_c,if_neg]
 unfold View.app;cases d with|none=>simp_all [View.putO,bEQ]|some d=>simp only[View.putO,View.put,h1,bEQ,Option.some.injEq];grind
theorem rY (V:View) (d:Option Nat) (e:Eff) (b:Nat):(V.app d e).hp b=bER e b (V.hp b):=by
 have D:∀ (V:View),(V.putO d e.out).hp=V.hp:=by intro V;cases d<;>rfl
 have E:(V.demP e.dem).hp b=(match e.dem with
  |some (.c A j)=>if b=A then(V.hp b).map (fun k=>k.set j (dem (k.at j)))else V.hp b
  |_=>V.hp b):=by
  cases e.dem with
   |none=>rfl
   |some p=>
    cases p with
     |t i=>rfl
     |c A j=>
      simp only[View.demP,View.setAt]
      grind [View.setB,View.at]
 unfold View.app;rw[D,qY];simp only[bER];cases lk e.bs b with|some k=>rfl|none=>
 simp only[bJX];cases G:e.blk with|none=>assumption|some I=>simp_all [View.setBO,View.setB,if_false]
def rtm (r:ROp):List Nat:=(r.op.opds.filterMap fun| .tmp t=>some t|_=>none)++(match r.guard with|some (d,_)=>[d]|none=>[])
def wtm (r:ROp) (e:Eff):List Nat:=r.dst.toList++(match e.dem with|some (.t t)=>[t]|_=>[])
def wbk (e:Eff):List Nat:=(match e.blk with|some (b,_)=>[b]|none=>[])++((match e.dem with|some (.c b _)=>[b]|_=>[])++e.bs.map (·.1))
theorem aSJ:∀ {l:List (Nat×Blk)} {b:Nat},b∉l.map (·.1)->lk l b=none|[],_,_=>rfl|(j,k)::r,b,h=>by simp only[List.map_cons,List.mem_cons,not_or]at h;simp only[lk];rw[if_neg (fun e=>h.1 e.symm)];exact aSJ h.2
theorem aFY {r:ROp} {e:Eff} {t:Nat} (h:t∉wtm r e) (cur:AV):bEQ r.dst e t cur=cur:=by simp only[wtm,List.mem_append,not_or]at h;simp only[bEQ];grind
theorem aFZ {e:Eff} {b:Nat} (h:b∉wbk e) (cur:Option Blk):bER e b cur=cur:=by simp only[wbk,List.mem_append,not_or]at h;simp only[bER,aSJ h.2.2,bJX];grind
theorem vC:∀ (L:List ROp) (E:List Eff) (D A:Nat->Bool) (k:Nat) (V G:View) (t:Nat),V.tm t=G.tm t-> (∀ (i:Nat) (r:ROp) (e:Eff),L[i]? =some r->E[i]? =some e->t∈wtm r e->D (k+i)=A (k+i))->(eC L E D k V).tm t=(eC L E A k G).tm t
 |[],E,D,A,k,V,G,t,h,_=>by assumption
 |r::L,[],D,A,k,V,G,t,h,_=>by assumption
 |r::L,e::E,D,A,k,V,G,t,h,J=>by simp only[eC];refine vC L E D A (k+1) _ _ t ?_ (fun i r' K M he I=>?_);{by_cases I:t∈wtm r e;{have:=J 0 r e (by simp) (by simp) I;simp only[Nat.add_zero]at this;grind [nZ]};{have e1:∀ (c:Bool) (V:View),(if c=true then V.app r.dst e else V).tm t=V.tm t:=(by intro c V;cases c with|true=>simp only[if_true,nZ,aFY I]|false=>rfl);simp[*]}};{have:=J (i+1) r' K (by simpa using M) (by simpa using he) I;grind}
theorem vD:∀ (L:List ROp) (E:List Eff) (D A:Nat->Bool) (k:Nat) (V G:View) (b:Nat),V.hp b=G.hp b-> (∀ (i:Nat) (r:ROp) (e:Eff),L[i]? =some r->E[i]? =some e->b∈wbk e->D (k+i)=A (k+i))->(eC L E D k V).hp b=(eC L E A k G).hp b
 |[],E,D,A,k,V,G,b,h,_=>by assumption
 |r::L,[],D,A,k,V,G,b,h,_=>by assumption
 |r::L,e::E,D,A,k,V,G,b,h,J=>by simp only[eC];refine vD L E D A (k+1) _ _ b ?_ (fun i r' K M he I=>?_);{by_cases I:b∈wbk e;{have:=J 0 r e (by simp) (by simp) I;simp only[Nat.add_zero]at this;grind [rY]};{have e1:∀ (c:Bool) (V:View),(if c=true then V.app r.dst e else V).hp b=V.hp b:=(by intro c V;cases c with|true=>simp only[if_true,rY,aFZ I]|false=>rfl);simp[*]}};{have:=J (i+1) r' K (by simpa using M) (by simpa using he) I;grind}
theorem aCX:∀ (L:List ROp) (E:List Eff) (k i:Nat) (V:View) (r:ROp) (e:Eff),L[i]? =some r->E[i]? =some e-> eC L E (fun j=>decide (j<k+i+1)) k V=(eC L E (fun j=>decide (j<k+i)) k V).app r.dst e
 |[],E,k,i,V,r,e,A,he=>by grind
 |D::L,[],k,i,V,r,e,A,he=>by grind
 |D::L,e0::E,k,i,V,r,e,A,he=>by have none:∀ (L:List ROp) (E:List Eff) (m k:Nat) (V:View),m<=k->eC L E (fun j=>decide (j<m)) k V=V:=(by intro L;induction L with|nil=>intro E m k V _;rfl|cons r L G=>intro E m k V hm;cases E with|nil=>rfl|cons e E=>simp only[eC];rw[if_neg (by simp;omega)];exact G E m (k+1) V (by omega));cases i with|zero=>simp at A he;subst A;subst he;simp only[eC,Nat.add_zero];simp[*]|succ i=>simp only[eC];rw[if_pos (by simp;omega),if_pos (decide_eq_true (by omega))];have:=aCX L E (k+1) i (V.app D.dst e0) r e (by simpa using A) (by simpa using he);grind
theorem View.ext {V A:View} (h1:∀t,V.tm t=A.tm t) (D:∀b,V.hp b=A.hp b):V=A:=by cases V;cases A;congr;{funext t;exact h1 t};grind
theorem bNY {c:Res} {r:ROp} {V A:View} (h1:∀t∈rtm r,V.tm t=A.tm t) (E:∀b∈oW c.us r.dst r.op (r.op.opds.map V.ev),V.hp b=A.hp b):qM P c r V=qM P c r A:=by
 have D:r.op.opds.map V.ev=r.op.opds.map A.ev:=by refine List.map_congr_left fun x G=>?_;cases x with|tmp t=>exact h1 t (by simp only[rtm,List.mem_append,List.mem_filterMap];exact .inl ⟨.tmp t,G,rfl⟩)|_=>rfl
 have J:eX P c r.dst r.op V=eX P c r.dst r.op A:=by simp only[eX];rw[<-D];congr 1;funext b;simp only[View.filt];split;{rename_i I;exact E b I};{rfl}
 grind [qM,rtm]
def dX (k:Option Blk) (off:Nat):Option AV:=match k with
 |some (.cells _ cs)=>cs[off]?
 |_=>none
def aSN (A:AOp) (vals:List AV):List (Nat×Nat):=match A,vals with
 | .load _ false _ _,[.ptr b off]=>[(b,off)]
 |_,_=>[]
def tbH (us:List Nat) (d:Option Nat) (A:AOp) (vals:List AV):List Nat:=match A,vals with
 | .load _ false _ _,[.ptr _ _]=>[]
 |_,_=>oW us d A vals
def whk (e:Eff):List Nat:=(match e.blk with|some (b,_)=>[b]|none=>[])++e.bs.map (·.1)
def dck (e:Eff):List (Nat×Nat):=match e.dem with|some (.c b j)=>[(b,j)]|_=>[]
theorem bOW (n:Nat) (A:Bool) (g:Nat->Option Blk) (b off:Nat):bBG n false A g [.ptr b off]=(match dX (g b) off with
  |some y=>if A=true then some {out:=y,dem:=some (.c b off)}else some {out:=dem y}
  |none=>none):=by
 simp only[bBG,dX]
 cases D:g b with
 |none=>rfl
 |some k=>
  cases k with
  |cells e cs=>
   simp only[wQ,Bool.false_eq_true,if_false]
   grind
  |map ks vs=>rfl
  |mapd ks vs=>rfl
  |hid l o=>rfl
theorem aHY (us:List Nat) (d:Option Nat) (A:AOp) (vals:List AV):(∃n D x b off,A=.load n false D x/\vals=[.ptr b off])\/(aSN A vals=[]/\tbH us d A vals=oW us d A vals):=by unfold aSN tbH;grind
theorem aNW {c:Res} {r:ROp} {V A:View} (h1:∀t∈rtm r,V.tm t=A.tm t) (O:∀b∈tbH c.us r.dst r.op (r.op.opds.map V.ev),V.hp b=A.hp b) (J:∀p∈aSN r.op (r.op.opds.map V.ev),dX (V.hp p.1) p.2=dX (A.hp p.1) p.2):qM P c r V=qM P c r A:=by rcases aHY c.us r.dst r.op (r.op.opds.map V.ev)with⟨n,S,x,b,off,e1,D⟩|⟨_,D⟩;{have E:r.op.opds.map V.ev=r.op.opds.map A.ev:=(by refine List.map_congr_left fun x K=>?_;cases x with|tmp t=>exact h1 t (by simp only[rtm,List.mem_append,List.mem_filterMap];exact .inl ⟨.tmp t,K,rfl⟩)|_=>rfl);have G:=J (b,off) (by rw[D,e1];simp[aSN]);have I:eX P c r.dst r.op V=eX P c r.dst r.op A:=(by simp only[eX];rw[<-E,D,e1];simp only[act,bOW,oW,List.flatMap_cons,List.flatMap_nil,bWN,View.filt,List.append_nil,List.mem_singleton,if_true];rw[G]);simp only[qM];cases L:r.guard with|none=>exact I|some M=>obtain⟨d,want⟩:=M;simp only;rw[h1 d (by simp[rtm,L])];split;{rw[I]};{rfl};{rfl}};grind [bNY]
theorem bYW (e:Eff) (b off:Nat) {cur A:Option Blk} (h:dX cur off=dX A off):dX (bER e b cur) off=dX (bER e b A) off:=by
 have D:∀j,dX (cur.map (fun k=>k.set j (dem (k.at j)))) off=dX (A.map (fun k=>k.set j (dem (k.at j)))) off:=by
  have key:∀ (k:Option Blk) (j:Nat),dX (k.map (fun k=>k.set j (dem (k.at j)))) off=if j=off then(dX k off).map dem else dX k off:=by intro k j;cases k with|none=>simp[dX]|some k=>cases k with|cells e cs=>simp only[dX,Option.map_some,Blk.set,Blk.at,List.getElem?_set];by_cases G:j=off;{subst G;simp only[if_true];by_cases E:j<cs.length;{rw[if_pos E,List.getElem?_eq_getElem E,List.getD_eq_getElem?_getD,List.getElem?_eq_getElem E];rfl};{rw[if_neg E,List.getElem?_eq_none (by omega)];rfl}};{simp[G]}|map ks vs=>simp[dX,Blk.set]|mapd ks vs=>simp[dX,Blk.set]|hid l o=>simp[dX,Blk.set]
  simp[*]
 unfold bER;split;{rfl};{unfold bJX;split;{split;{rfl};{split;{split;{exact D _};{exact h}};{exact h}}};{split;{split;{exact D _};{exact h}};{exact h}}}
theorem bYV {e:Eff} {b off:Nat} (hw:b∉whk e) (G:(b,off)∉dck e) (cur:Option Blk):dX (bER e b cur) off=dX cur off:=by
 simp only[whk,List.mem_append,not_or]at hw;have A:∀j,j≠off->dX (cur.map (fun k=>k.set j (dem (k.at j)))) off=dX cur off:=by intro j I;cases cur with|none=>rfl|some k=>cases k<;>simp[dX,Blk.set,List.getElem?_set,I]
 have K:dX (match e.dem with
  |some (.c E j)=>if b=E then cur.map (fun k=>k.set j (dem (k.at j)))else cur
  |_=>cur) off=dX cur off:=by
  cases D:e.dem with
   |none=>rfl
   |some p=>
    cases p with
     |t i=>rfl
     |c E j=>
      simp only
      split
      ·rename_i e1;subst e1
       refine A j fun J=>G ?_
       subst J
       simp[dck,D]
      ·rfl
 simp only[bER,aSJ hw.2,bJX];grind
theorem aME:∀ (L:List ROp) (E:List Eff) (D A:Nat->Bool) (k:Nat) (V G:View) (b off:Nat),dX (V.hp b) off=dX (G.hp b) off-> (∀ (i:Nat) (r:ROp) (e:Eff),L[i]? =some r->E[i]? =some e->b∈wbk e->D (k+i)=A (k+i)\/(b∉whk e/\(b,off)∉dck e))->dX ((eC L E D k V).hp b) off=dX ((eC L E A k G).hp b) off
 |[],E,D,A,k,V,G,b,off,h,_=>by assumption
 |r::L,[],D,A,k,V,G,b,off,h,_=>by assumption
 |r::L,e::E,D,A,k,V,G,b,off,h,M=>by simp only[eC];refine aME L E D A (k+1) _ _ b off ?_ (fun i r' S U he I=>?_);{have soft:b∉whk e->(b,off)∉dck e-> ∀ (c O:Bool),dX ((if c=true then V.app r.dst e else V).hp b) off=dX ((if O=true then G.app r.dst e else G).hp b) off:=(by intro h1 J c O;have e1:∀ (c:Bool) (V:View),dX ((if c=true then V.app r.dst e else V).hp b) off=dX (V.hp b) off:=(by intro c V;cases c with|true=>simp only[if_true,rY,bYV h1 J]|false=>rfl);simp[*]);by_cases I:b∈wbk e;{rcases M 0 r e (by simp) (by simp) I with h1|⟨h1,J⟩;{simp only[Nat.add_zero]at h1;grind [rY,bYW]};{exact soft h1 J _ _}};{refine soft (fun K=>I ?_) (fun K=>I ?_) _ _;{simp only[whk,wbk,List.mem_append]at K|-;exact K.elim .inl fun h=>.inr (.inr h)};grind [dck,wbk,List.mem_singleton,Prod.mk.injEq]}};{have:=M (i+1) r' S (by simpa using U) (by simpa using he) I;grind}
end Go.Aw
end
section
namespace Go.Aw
variable [GL]
variable {P:Program} {C:Ctx} {a:Act} {w:World} {ops:Array Oper} {Q:Exit->Act->World->Prop}
structure Ran (P:Program) (N:Nat) (L:List ROp) (R:List Res) (V0:View) (E:List Eff):Prop where
 len:E.length=L.length
 eff:∀ (i:Nat) (r:ROp) (e:Eff),L[i]? =some r->E[i]? =some e->qM P (R.getD i {}) r (eC L E (fun j=>decide (j<i)) 0 V0)=some e/\e.ob
 ok:∀r∈L,pW N r.dst r.op=true
theorem aJJ {L:List ROp} {E:List Eff} (A:View) (o:Nat->Bool) (h:∀i,i<L.length->o i=true):eC L E o 0 A=eC L E (fun _=>true) 0 A:=by refine View.ext (fun t=>vC _ _ _ _ _ _ _ _ rfl fun i r e D _ _=>?_) (fun b=>vD _ _ _ _ _ _ _ _ rfl fun i r e D _ _=>?_);all_goals grind
theorem sS:∀ (L:List ROp) (E:List Eff) (o:Nat->Bool) (k:Nat) (V:View),(∀j,k<=j->o j=false)->eC L E o k V=V
 |[],_,_,_,_,_=>by rfl
 |_::_,[],_,_,_,_=>by rfl
 |r::L,e::E,o,k,V,h=>by simp only[eC];rw[if_neg (by simp[*])];exact sS L E o (k+1) V (fun j A=>h j (by omega))
theorem aHA {id:Nat} {M:List Bool} {L:List ROp} {R:List Res} {G:View} {E:List Eff} (I:lN P ops M ops.toList=some L) (o:Ran P C.N L R G E) (h:Sim C G a w) (W:∀a' w',Sim C (eC L E (fun _=>true) 0 G) a' w'->Q .normal a' w'):(Code.region id ops false).wpIn (fen C) 0 P Q a w:=by
 obtain⟨hlen,J⟩:=qA _ _ _ _ I;have A:L.length=ops.size:=by simpa using hlen
 refine wpIn_region ?_;have key:∀ (m k:Nat) (a:Act) (w:World),k+m=ops.size->Sim C (eC L E (fun j=>decide (j<k)) 0 G) a w->wpOpsIn (fen C) 0 P ops Q (List.range' k m) a w:=by intro m;induction m with|zero=>intro k a w hk K;simp only[List.range'_zero,wpOpsIn];rw[aJJ G _ (fun i hi=>by simp;omega)]at K;exact W a w K|succ m Y=>intro k a w hk K;rw[List.range'_succ,wpOpsIn_cons];have D:k<ops.size:=(by omega);have Z:ops[k]? =some ops[k]:=(by simp[D]);obtain⟨tk,r,O,S⟩:=J k ops[k] (by simp[D]);have hE:∃e,E[k]? =some e:=⟨E[k]'(by rw[o.len,A];exact D),by simp⟩;obtain⟨e,he⟩:=hE;obtain⟨h1,h2⟩:=o.eff k r e O he;refine aOZ Z S K h1 h2 (o.ok r (List.mem_of_getElem? O)) fun a' w' U=>?_;refine Y (k+1) a' w' (by omega) ?_;have:=aCX L E 0 k G r e O he;simp only[Nat.zero_add]at this;rw[this];exact U
 simp_all [List.range_eq_range',sS]
def gU:List ROp->List (List Nat)->List (List Nat)
 |[],acc=>acc
 |r::L,acc=>gU L (acc++[r.after++r.after.flatMap (fun e=>acc.getD e [])])
theorem uO (S:Nat->Prop):∀ (L:List ROp) (acc:List (List Nat)),(∀ (m:Nat),S m-> ∀k∈acc.getD m [],S k)-> (∀ (i:Nat) (r:ROp),L[i]? =some r->S (acc.length+i)-> ∀e∈r.after,S e)-> (∀ (m:Nat),S m-> ∀k∈(gU L acc).getD m [],S k)/\(∀ (i:Nat) (r:ROp),L[i]? =some r->(∀e∈r.after,S e)-> ∀k∈(gU L acc).getD (acc.length+i) [],S k)/\(∀m,m<acc.length->(gU L acc).getD m []=acc.getD m [])|[],acc,A,_=>⟨by assumption,by simp,by simp[gU]⟩|r::L,acc,A,I=>by simp only[gU];have E:(∀e∈r.after,S e)-> ∀k∈r.after++r.after.flatMap (fun e=>acc.getD e []),S k:=(by intro M k hk;rcases List.mem_append.1 hk with hk|hk;{exact M k hk};{obtain⟨e,he,K⟩:=List.mem_flatMap.1 hk;exact A e (M e he) k K});have o:(acc++[r.after++r.after.flatMap (fun e=>acc.getD e [])]).length=acc.length+1:=(by simp);have G:∀ (m:Nat),S m-> ∀k∈(acc++[r.after++r.after.flatMap (fun e=>acc.getD e [])]).getD m [],S k:=(by intro m hm k hk;rw[List.getD_eq_getElem?_getD]at hk;by_cases h1:m<acc.length;{rw[List.getElem?_append_left h1]at hk;exact A m hm k (by rw[List.getD_eq_getElem?_getD];exact hk)};{by_cases O:m=acc.length;{subst O;simp at hk;exact E (I 0 r (by simp) hm) k (by simpa using hk)};{rw[List.getElem?_eq_none (by rw[o];omega)]at hk;simp at hk}});obtain⟨c1,c2,c3⟩:=uO S L _ G (fun i r' D J e he=>I (i+1) r' (by simpa using D) (by rw[o]at J;rwa [show acc.length+(i+1)=acc.length+1+i from by omega]) e he);refine⟨c1,fun i r' D J k hk=>?_,fun m hm=>?_⟩;{cases i with|zero=>simp at D;subst D;rw[Nat.add_zero,c3 acc.length (by rw[o];omega)]at hk;simp at hk;exact E J k (by simpa using hk)|succ i=>exact c2 i r' (by simpa using D) J k (by rw[o];rwa [show acc.length+1+i=acc.length+(i+1)from by omega])};grind
structure oD where
 rt:List Nat
 wt:List Nat
 tb:List Nat
 wb:List Nat
 lc:List (Nat×Nat):=[]
 wh:List Nat:=[]
 dc:List (Nat×Nat):=[]
def bJG (l m:List Nat):Bool:=l.all fun x=>!m.contains x
def sft (x y:oD):Bool:=y.lc.all fun p=>!x.wh.contains p.1&& !x.dc.contains p
def indep (x y:oD):Bool:=bJG x.wt (y.rt++y.wt)&&bJG y.wt (x.rt++x.wt)&&bJG x.wb (y.tb++y.wb)&&bJG y.wb (x.tb++x.wb)&&(sft x y&&sft y x)
theorem fX {l m:List Nat} (h:bJG l m=true) {x:Nat} (o:x∈l) (hm:x∈m):False:=by have:=List.all_eq_true.1 h x o;simp_all
def dF (c:Res) (r:ROp) (e:Eff) (V:View):oD:={rt:=rtm r,wt:=wtm r e,tb:=tbH c.us r.dst r.op (r.op.opds.map V.ev),wb:=wbk e,lc:=aSN r.op (r.op.opds.map V.ev),wh:=whk e,dc:=dck e}
structure cQD (L:List ROp) (R:List Res) (V0:View) (E:List Eff):Prop where
 back:∀ (i:Nat) (r:ROp),L[i]? =some r-> ∀e∈r.after,e<i
 pair:∀ (i j:Nat) (r r':ROp) (e e':Eff),i<j->L[i]? =some r->E[i]? =some e->L[j]? =some r'->E[j]? =some e'->i∈(gU L []).getD j []\/
  indep (dF (R.getD i {}) r e (eC L E (fun k=>decide (k<i)) 0 V0)) (dF (R.getD j {}) r' e' (eC L E (fun k=>decide (k<j)) 0 V0))=true
theorem aLQ {p q:Nat->Bool}:∀ (l:List Nat),(∀x,q x=true->p x=true)-> ∀i∈l,p i=true->q i=false->l.countP q<l.countP p
 |[],_,i,hi,_,_=>by grind
 |x::l,h,i,hi,hp,o=>by have hle:l.countP q<=l.countP p:=List.countP_mono_left fun x _ A=>h x A;rw[List.countP_cons,List.countP_cons];rcases List.mem_cons.1 hi with rfl|hi;{grind};{have:=aLQ l h i hi hp o;grind}
theorem bME {id:Nat} (hm:P.follows .mixedOrders=true) {a1:List Bool} {L:List ROp} {R:List Res} {J:View} {E:List Eff} (am:lN P ops a1 ops.toList=some L) (ab:Ran P C.N L R J E) (U:cQD L R J E) (h:Sim C J a w) (hQ:∀a' w',Sim C (eC L E (fun _=>true) 0 J) a' w'->Q .normal a' w'):(Code.region id ops true).wpIn (fen C) 0 P Q a w:=by
 obtain⟨hlen,an⟩:=qA _ _ _ _ am;have ai:L.length=ops.size:=by omega
 have W:∀ (i:Nat) (o:Oper) (r:ROp) (tk:Bool),sW P tk ops o=some r->r.after=iX o:=by grind [sW]
 refine wpIn_region_any hm ?_;have hE:∀i,i<ops.size-> ∃r e tk,L[i]? =some r/\E[i]? =some e/\ ∃o,ops[i]? =some o/\sW P tk ops o=some r:=by intro i hi;obtain⟨tk,r,Z,Y⟩:=an i ops[i] (by simp);exact⟨r,E[i]'(by rw[ab.len,ai];exact hi),tk,Z,by simp,ops[i],by simp,Y⟩
 have key:∀ (fuel:Nat) (listed:Array Bool) (a:Act) (w:World),listed.size=ops.size->(∀ (i:Nat) (r:ROp),L[i]? =some r->listed.getD i false=true-> ∀e∈r.after,listed.getD e false=true)->
  (List.range ops.size).countP (fun i=>!listed.getD i false)<=fuel->Sim C (eC L E (fun j=>listed.getD j false) 0 J) a w->wpAnyIn (fen C) 0 P .any ops Q fuel listed a w:=by
  intro fuel
  induction fuel with
  |zero=>
   intro listed a w aj ao ag hs
   have ah:∀i,i<ops.size->listed.getD i false=true:=by
    intro i hi
    have:=List.countP_eq_zero.1 (Nat.le_zero.1 ag) i (List.mem_range.2 hi)
    simpa using this
   refine⟨?_,?_⟩
   ·refine List.eq_nil_iff_forall_not_mem.2 fun j hj=>?_
    obtain⟨h2,oj,a3,_⟩:=mem_ready.1 hj
    have h1:j<ops.size:=(Array.getElem?_eq_some_iff.1 a3).1
    have:=ah j h1
    have ak:j<listed.size:=by rw[aj];exact h1
    simp[Array.getD,ak]at h2 this
    rw[h2]at this;cases this
   simp_all [aJJ]
  |succ fuel ih=>
   intro listed a w aj ao ag hs
   refine⟨fun ap=>?_,fun i hi=>?_⟩
   ·have ah:∀i,i<ops.size->listed.getD i false=true:=by
     intro i
     induction i using Nat.strongRecOn with
      |_ i a4=>
       intro hi
       cases aq:listed.getD i false with
        |true=>rfl
        |false=>
         exfalso
         obtain⟨r,e,tk,Z,_,o,ho,Y⟩:=hE i hi
         have ak:i<listed.size:=by rw[aj];exact hi
         have:i∈Region.ready .any ops listed:=by
          refine mem_ready.2 ⟨by simp[Array.getD,ak]at aq|-;exact aq,o,ho,fun ed a6 hb=>?_⟩
          have ar:ed.on∈r.after:=by
           rw[W i o r tk Y]
           simp only[iX,List.mem_filterMap]
           exact⟨ed,by simpa using a6,by rw[if_pos hb]⟩
          have ac:=U.back i r Z _ ar
          exact a4 _ ac (by omega)
         rw[ap]at this;simp at this
    simp_all [aJJ]
   ·obtain⟨h2,o',a7,a8⟩:=mem_ready.1 hi
    have h1:i<ops.size:=(Array.getElem?_eq_some_iff.1 a7).1
    obtain⟨r,e,tk,Z,he,o,ho,Y⟩:=hE i h1
    have a9:o'=o:=by simp_all
    subst a9
    have bk:i<listed.size:=by omega
    have ba:listed.getD i false=false:=by simp_all
    have au:∀x∈r.after,listed.getD x false=true:=by
     intro x hx
     rw[W i _ r tk Y]at hx
     grind [iX]
    obtain⟨r1,r2,_⟩:=uO (fun k=>listed.getD k false=true) L [] (by simp) (fun k r' bb bc x hx=>ao k r' bb (by simp_all) x hx)
    have ad:∀k∈(gU L []).getD i [],listed.getD k false=true:=by
     have:=r2 i r Z au
     simp_all
    have O:∀ (k:Nat) (K:ROp) (M:Eff),L[k]? =some K->E[k]? =some M->k≠i->
     indep (dF (R.getD k {}) K M (eC L E (fun j=>decide (j<k)) 0 J)) (dF (R.getD i {}) r e (eC L E (fun j=>decide (j<i)) 0 J))=true\/
     indep (dF (R.getD i {}) r e (eC L E (fun j=>decide (j<i)) 0 J)) (dF (R.getD k {}) K M (eC L E (fun j=>decide (j<k)) 0 J))=true\/
     (k<i/\listed.getD k false=true)\/(i<k/\listed.getD k false=false):=by
     intro k K M D G A
     by_cases ac:k<i
     ·rcases U.pair k i K r M e ac D G Z he with hp|hp
      ·exact .inr (.inr (.inl ⟨ac,ad k hp⟩))
      ·exact .inl hp
     ·have aw:i<k:=by omega
      rcases U.pair i k r K e M aw Z he D G with hp|hp
      ·refine .inr (.inr (.inr ⟨aw,?_⟩))
       cases bd:listed.getD k false with
        |false=>rfl
        |true=>have:=r1 k bd i hp;rw[ba]at this;cases this
      simp_all
    have ax:∀t,t∈rtm r++wtm r e->(eC L E (fun j=>decide (j<i)) 0 J).tm t=(eC L E (fun j=>listed.getD j false) 0 J).tm t:=by
     intro t ht
     refine vC _ _ _ _ _ _ _ _ rfl fun k K M D G hw=>?_
     rw[Nat.zero_add]
     by_cases A:k=i
     ·simp[*]
     ·rcases O k K M D G A with hp|hp|⟨hp,S⟩|⟨hp,S⟩
      ·simp only[indep,dF,Bool.and_eq_true]at hp
       exact(fX hp.1.1.1.1 hw ht).elim
      ·simp only[indep,dF,Bool.and_eq_true]at hp
       exact(fX hp.1.1.1.2 hw ht).elim
      ·rw[S];simp[hp]
      grind
    have ay:∀b,b∈tbH (R.getD i {}).us r.dst r.op (r.op.opds.map (eC L E (fun j=>decide (j<i)) 0 J).ev)++wbk e->(eC L E (fun j=>decide (j<i)) 0 J).hp b=(eC L E (fun j=>listed.getD j false) 0 J).hp b:=by
     intro b hb
     refine vD _ _ _ _ _ _ _ _ rfl fun k K M D G hw=>?_
     rw[Nat.zero_add]
     by_cases A:k=i
     ·simp[*]
     ·rcases O k K M D G A with hp|hp|⟨hp,S⟩|⟨hp,S⟩
      ·simp only[indep,dF,Bool.and_eq_true]at hp
       exact(fX hp.1.1.2 hw hb).elim
      ·simp only[indep,dF,Bool.and_eq_true]at hp
       exact(fX hp.1.2 hw hb).elim
      ·rw[S];simp[hp]
      grind
    have be:∀p∈aSN r.op (r.op.opds.map (eC L E (fun j=>decide (j<i)) 0 J).ev),dX ((eC L E (fun j=>decide (j<i)) 0 J).hp p.1) p.2=dX ((eC L E (fun j=>listed.getD j false) 0 J).hp p.1) p.2:=by
     intro p az
     refine aME _ _ _ _ _ _ _ _ _ rfl fun k K M D G hw=>?_
     rw[Nat.zero_add]
     have soft:∀ (x y:oD),sft x y=true->p∈y.lc->p.1∉x.wh/\p∉x.dc:=by
      intro x y h hp
      have:=List.all_eq_true.1 h p hp
      grind
     by_cases A:k=i
     ·simp[*]
     ·rcases O k K M D G A with hp|hp|⟨hp,S⟩|⟨hp,S⟩
      ·simp only[indep,Bool.and_eq_true]at hp
       exact .inr (soft _ _ hp.2.1 az)
      ·simp only[indep,Bool.and_eq_true]at hp
       exact .inr (soft _ _ hp.2.2 az)
      ·rw[S];simp[hp]
      grind
    obtain⟨e1,e2⟩:=ab.eff i r e Z he
    have eS:qM P (R.getD i {}) r (eC L E (fun j=>listed.getD j false) 0 J)=some e:=by
     rw[<-e1]
     exact(aNW (fun t ht=>ax t (List.mem_append.2 (.inl ht))) (fun b hb=>ay b (List.mem_append.2 (.inl hb))) be).symm
    have I:∀k,(listed.setIfInBounds i true).getD k false=if k=i then true else listed.getD k false:=by
     intro k
     rw[Array.getD_eq_getD_getElem?,Array.getD_eq_getD_getElem?,Array.getElem?_setIfInBounds]
     grind
    refine aOZ ho Y hs eS e2 (ab.ok r (List.mem_of_getElem? Z)) fun a' w' bc=>?_
    refine ih (listed.setIfInBounds i true) a' w' (by grind) (fun k K D hk x hx=>?_) ?_ ?_
    ·rw[I]at hk|-
     grind
    ·have ac:=aLQ (p:=fun j=>!listed.getD j false) (q:=fun j=>!(listed.setIfInBounds i true).getD j false) (List.range ops.size) (fun x hx=>by
      grind) i (List.mem_range.2 h1) (by grind) (by simp[*])
     omega
    ·have:(eC L E (fun j=>listed.getD j false) 0 J).app r.dst e=eC L E (fun j=>(listed.setIfInBounds i true).getD j false) 0 J:=by
      have al:=aCX L E 0 i J r e Z he
      simp only[Nat.zero_add]at al
      refine View.ext (fun t=>?_) (fun b=>?_)
      ·by_cases ht:t∈wtm r e
       ·rw[nZ,<-ax t (List.mem_append.2 (.inr ht)),<-nZ,<-al]
        refine vC _ _ _ _ _ _ _ _ rfl fun k K M D G hw=>?_
        rw[Nat.zero_add,I]
        by_cases A:k=i
        ·subst A;simp
        ·rw[if_neg A]
         rcases O k K M D G A with hp|hp|⟨hp,S⟩|⟨hp,S⟩
         ·simp only[indep,dF,Bool.and_eq_true]at hp
          exact(fX hp.1.1.1.1 hw (List.mem_append.2 (.inr ht))).elim
         ·simp only[indep,dF,Bool.and_eq_true]at hp
          exact(fX hp.1.1.1.2 hw (List.mem_append.2 (.inr ht))).elim
         ·rw[S];simp;omega
         ·rw[S];simp;omega
       ·rw[nZ,aFY ht]
        refine vC _ _ _ _ _ _ _ _ rfl fun k K M D G hw=>?_
        rw[Nat.zero_add,I]
        by_cases A:k=i
        ·subst A
         rw[Z]at D;cases D
         rw[he]at G;cases G
         exact absurd hw ht
        ·rw[if_neg A]
      ·by_cases hb:b∈wbk e
       ·rw[rY,<-ay b (List.mem_append.2 (.inr hb)),<-rY,<-al]
        refine vD _ _ _ _ _ _ _ _ rfl fun k K M D G hw=>?_
        rw[Nat.zero_add,I]
        by_cases A:k=i
        ·subst A;simp
        ·rw[if_neg A]
         rcases O k K M D G A with hp|hp|⟨hp,S⟩|⟨hp,S⟩
         ·simp only[indep,dF,Bool.and_eq_true]at hp
          exact(fX hp.1.1.2 hw (List.mem_append.2 (.inr hb))).elim
         ·simp only[indep,dF,Bool.and_eq_true]at hp
          exact(fX hp.1.2 hw (List.mem_append.2 (.inr hb))).elim
         ·rw[S];simp;omega
         ·rw[S];simp;omega
       ·rw[rY,aFZ hb]
        refine vD _ _ _ _ _ _ _ _ rfl fun k K M D G hw=>?_
        rw[Nat.zero_add,I]
        by_cases A:k=i
        ·subst A
         rw[Z]at D;cases D
         rw[he]at G;cases G
         exact absurd hw hb
        ·rw[if_neg A]
     grind
 refine key ops.size _ a _ (by simp) (fun i r _ hh=>?_) ?_ ?_;{simp[Array.getD_eq_getD_getElem?,Array.getElem?_replicate]at hh;grind};{grind [Nat.le_trans,List.countP_le_length]}
 ·rw[sS L E _ 0 J (fun j _=>by rw[Array.getD_eq_getD_getElem?,Array.getElem?_replicate];grind)]
  obtain⟨fz,ρ,hs⟩:=h;exact⟨fz,ρ,hs.ext (Ext.drawn w _ (Nat.le_succ _))⟩
end Go.Aw
end
section
namespace Go.Aw
variable [GL]
variable {P:Program} {C:Ctx} {a:Act} {w:World} {ops:Array Oper}
def ins {α:Type} (k:Nat) (x:α):List (Nat×α)->List (Nat×α)
 |[]=>[(k,x)]
 |(j,y)::l=>if j=k then(k,x)::l else(j,y)::ins k x l
theorem pI {α:Type} (k:Nat) (x:α) (j:Nat):∀l:List (Nat×α),lk (ins k x l) j=if j=k then some x else lk l j|[]=>by grind [ins,lk]|(i,y)::l=>by simp only[ins];by_cases o:i=k;{subst o;simp only[if_true,lk];grind};{simp only[o,if_false,lk,pI k x j l];grind}
structure AS where
 tm:List (Nat×AV)
 hp:List (Nat×Blk)
def AS.view (s:AS):View:={tm:=fun t=>(lk s.tm t).getD .unk,hp:=fun b=>lk s.hp b}
def AS.put (s:AS) (t:Nat) (x:AV):AS:={s with tm:=ins t x s.tm}
def AS.setB (s:AS) (b:Nat) (k:Blk):AS:={s with hp:=ins b k s.hp}
def AS.demP (s:AS):Option Pl->AS
 |none=>s
 |some (.t t)=>match lk s.tm t with
  |some v=>s.put t (dem v)
  |none=>s
 |some (.c b j)=>match lk s.hp b with
  |some k=>s.setB b (k.set j (dem (k.at j)))
  |none=>s
def AS.setBO (s:AS):Option (Nat×Blk)->AS
 |none=>s
 |some (b,k)=>s.setB b k
def AS.putO (s:AS):Option Nat->AV->AS
 |none,_=>s
 |some d,x=>s.put d x
def AS.setBs (s:AS):List (Nat×Blk)->AS
 |[]=>s
 |(b,k)::r=>(s.setBs r).setB b k
def AS.app (s:AS) (d:Option Nat) (e:Eff):AS:=(((s.demP e.dem).setBO e.blk).setBs e.bs).putO d e.out
theorem zY (s:AS) (t:Nat) (x:AV):(s.put t x).view=s.view.put t x:=by refine View.ext (fun u=>?_) (fun b=>rfl);simp only[AS.view,AS.put,View.put,pI];grind
theorem jC (s:AS) (b:Nat) (k:Blk):(s.setB b k).view=s.view.setB b k:=by simp[View.ext,AS.view,AS.setB,View.setB,pI]
theorem aJS (s:AS) (p:Option Pl):(s.demP p).view=s.view.demP p:=by cases p with|none=>rfl|some p=>cases p with|t t=>(simp only[AS.demP,View.demP,View.setAt,View.at];cases h:lk s.tm t with|some v=>grind [zY,AS.view]|none=>refine View.ext (fun u=>?_) (fun b=>rfl);simp_all [View.put,AS.view,Aw.dem])|c b j=>simp only[AS.demP,View.demP,View.setAt];cases h:lk s.hp b with|some k=>have:s.view.hp b=some k:=h;simp_all [jC,View.at,Option.map_some,Option.getD_some]|none=>have:s.view.hp b=none:=h;simp[*]
theorem mX (s:AS) (d:Option Nat) (e:Eff):(s.app d e).view=s.view.app d e:=by
 simp only[AS.app,View.app];have h1:∀s:AS,(s.setBO e.blk).view=s.view.setBO e.blk:=by
  intro s;cases e.blk with
   |none=>rfl|some o=>obtain⟨b,k⟩:=o;exact jC s b k
 have A:∀ (s:AS) (l:List (Nat×Blk)),(s.setBs l).view=s.view.setBs l:=by intro s l;induction l with|nil=>rfl|cons x l D=>simp_all [AS.setBs,View.setBs,jC]
 cases d with|none=>simp_all [AS.putO,View.putO,aJS]|some d=>simp_all [AS.putO,View.putO,zY,aJS]
def AOp.isCall:AOp->Bool
 | .call _ _=>true
 |_=>false
def cT:List ROp->List Res->List Res
 |[],_=>[]
 |r::L,R=>if r.op.isCall then R.headD {}::cT L R.tail else{}::cT L R
def aAH (P:Program):List ROp->List Res->AS->Option (AS×Prop)
 |[],_,s=>some (s,True)
 |r::L,c::R,s=>match qM P c r s.view with
  |some e=>match aAH P L R (s.app r.dst e)with
   |some (s',ob)=>some (s',e.ob/\ob)
   |none=>none
  |none=>none
 |_::_,[],_=>none
def mT (P:Program):List ROp->List Res->AS->List oD
 |r::L,c::R,s=>match qM P c r s.view with
  |some e=>dF c r e s.view::mT P L R (s.app r.dst e)
  |none=>[]
 |_,_,_=>[]
def fZ (N:Nat) (L:List ROp):Bool:=L.all fun r=>pW N r.dst r.op
theorem aGB:∀ (L:List ROp) (E:List Eff) (o:Nat->Bool) (k:Nat) (V:View),eC L E o (k+1) V=eC L E (fun j=>o (j+1)) k V
 |[],_,_,_,_=>by rfl
 |_::_,[],_,_,_=>by rfl
 |r::L,e::E,o,k,V=>by simp only[eC];rw[aGB L E o (k+1)]
theorem wL {N:Nat}:∀ (L:List ROp) (R:List Res) (s s':AS) (ob:Prop),aAH P L R s=some (s',ob)->ob->fZ N L=true-> ∃E,Ran P N L R s.view E/\eC L E (fun _=>true) 0 s.view=s'.view/\ (mT P L R s).length=L.length/\ ∀ (i:Nat) (r:ROp) (e:Eff),L[i]? =some r->E[i]? =some e->(mT P L R s)[i]? =some (dF (R.getD i {}) r e (eC L E (fun k=>decide (k<i)) 0 s.view))
 |[],R,s,s',ob,h,_,_=>by simp only[aAH,Option.some.injEq,Prod.mk.injEq]at h;obtain⟨rfl,_⟩:=h;exact⟨[],⟨rfl,by simp,by simp⟩,rfl,rfl,by simp⟩
 |_::_,[],s,s',ob,h,_,_=>by grind [aAH]
 |r::L,c::R,s,s',ob,h,I,D=>by simp only[aAH]at h;split at h;{rename_i e he;split at h;{rename_i s2 U W;cases h;simp only[fZ,List.all_cons,Bool.and_eq_true]at D;obtain⟨E,K,S,Y,Z⟩:=wL L R _ _ _ W I.2 D.2;rw[mX]at K S;have A:mT P (r::L) (c::R) s=dF c r e s.view::mT P L R (s.app r.dst e):=(by simp only[mT,he]);have J:∀i,eC (r::L) (e::E) (fun k=>decide (k<i+1)) 0 s.view=eC L E (fun k=>decide (k<i)) 0 (s.view.app r.dst e):=(by intro i;simp only[eC];rw[if_pos (by simp),aGB];congr 1;funext j;simp);refine⟨e::E,⟨by simp[K.len],fun i r' M G o=>?_,fun r' O=>?_⟩,?_,by rw[A];simp[Y],fun i r' M G o=>?_⟩;{cases i with|zero=>simp at G o;subst G;subst o;rw[sS _ _ _ _ _ (by simp)];exact⟨by simpa using he,I.1⟩|succ i=>rw[J];simpa using K.eff i r' M (by simpa using G) (by simpa using o)};{cases List.mem_cons.1 O with|inl h=>subst h;exact D.1|inr h=>exact K.ok r' h};{simp only[eC,if_true];rw[aGB];exact S};{rw[A];cases i with|zero=>simp at G o;subst G;subst o;rw[sS _ _ _ _ _ (by simp)];simp|succ i=>rw[J];have:=Z i r' M (by simpa using G) (by simpa using o);rw[mX]at this;simpa using this}};{cases h}};{cases h}
def qR (reach:List (List Nat)) (i:Nat) (x:oD):List oD->Nat->Bool
 |[],_=>true
 |y::o,j=>((reach.getD j []).contains i||indep x y)&&qR reach i x o (j+1)
def jH (reach:List (List Nat)):List oD->Nat->Bool
 |[],_=>true
 |x::xs,i=>qR reach i x xs (i+1)&&jH reach xs (i+1)
def uB:List ROp->Nat->Bool
 |[],_=>true
 |r::L,i=>r.after.all (fun e=>decide (e<i))&&uB L (i+1)
theorem uA:∀ (L:List ROp) (k:Nat),uB L k=true-> ∀ (i:Nat) (r:ROp),L[i]? =some r-> ∀e∈r.after,e<k+i
 |[],_,_,i,r,h=>by grind
 |A::L,k,o,i,r,h=>by simp only[uB,Bool.and_eq_true]at o;cases i with|zero=>simp_all|succ i=>intro e he;have:=uA L (k+1) o.2 i r (by simpa using h) e he;omega
theorem aIS {reach:List (List Nat)} {i:Nat} {x:oD}:∀ (l:List oD) (j:Nat),qR reach i x l j=true-> ∀ (m:Nat) (y:oD),l[m]? =some y->i∈reach.getD (j+m) []\/indep x y=true
 |[],_,_,m,y,h=>by grind
 |z::l,j,o,m,y,h=>by simp only[qR,Bool.and_eq_true,Bool.or_eq_true]at o;cases m with|zero=>simp_all|succ m=>have:=aIS l (j+1) o.2 m y (by simpa using h);grind
theorem aFD {reach:List (List Nat)}:∀ (l:List oD) (k:Nat),jH reach l k=true-> ∀ (i j:Nat) (x y:oD),i<j->l[i]? =some x->l[j]? =some y->k+i∈reach.getD (k+j) []\/indep x y=true
 |[],_,_,i,j,x,y,_,h,_=>by grind
 |z::l,k,A,i,j,x,y,G,D,E=>by simp only[jH,Bool.and_eq_true]at A;cases i with|zero=>simp at D;subst D;obtain⟨o,rfl⟩:∃o,j=o+1:=⟨j-1,by omega⟩;have:=aIS l (k+1) A.1 o y (by simpa using E);grind|succ i=>obtain⟨o,rfl⟩:∃o,j=o+1:=⟨j-1,by omega⟩;have:=aFD l (k+1) A.2 i o x y (by omega) (by simpa using D) (by simpa using E);grind
def AWp (P:Program) (C:Ctx) (c:Code) (Q:Exit->AS->Prop) (s:AS):Prop:=
 ∀ (a:Act) (w:World),Sim C s.view a w->c.wpIn (fen C) 0 P (fun e a' w'=>∃s':AS,Sim C s'.view a' w'/\Q e s') a w
theorem AWp.mono {c:Code} {Q o:Exit->AS->Prop} {s:AS} (h:AWp P C c Q s) (A:∀e s,Q e s->o e s):AWp P C c o s:=
 fun a w D=>wpIn_mono (h a w D) fun _ _ _ ⟨s',h1,E⟩=>⟨s',h1,A _ _ E⟩
def bQD (P:Program) (C:Ctx) (y:Code) (Q:Exit->AS->Prop):Exit->AS->Prop
 | .normal,s=>AWp P C y Q s
 |e,s=>Q e s
theorem AWp.seq {x y:Code} {Q:Exit->AS->Prop} {s:AS} (h:AWp P C x (bQD P C y Q) s):AWp P C (.seq x y) Q s:=by intro a w o;refine wpIn_seq (wpIn_mono (h a w o) fun e a' w' ⟨s',h1,A⟩=>?_);cases e with|normal=>exact A a' w' h1|_=>assumption
theorem AWp.skip {Q:Exit->AS->Prop} {s:AS} (h:Q .normal s):AWp P C .skip Q s:=fun _ _ o=>wpIn_skip ⟨s,o,h⟩
theorem AWp.ret {Q:Exit->AS->Prop} {s:AS} (h:Q .ret s):AWp P C .ret Q s:=fun _ _ o=>wpIn_ret ⟨s,o,h⟩
theorem AWp.exit {id:Nat} {Q:Exit->AS->Prop} {s:AS} (h:Q (.exit id) s):AWp P C (.exit id) Q s:=fun _ _ o=>wpIn_exit ⟨s,o,h⟩
def bEN (id:Nat) (Q:Exit->AS->Prop):Exit->AS->Prop
 | .exit o,s=>if o=id then Q .normal s else Q (.exit o) s
 |e,s=>Q e s
theorem AWp.block {id:Nat} {c:Code} {Q:Exit->AS->Prop} {s:AS} (h:AWp P C c (bEN id Q) s):AWp P C (.block id c) Q s:=by intro a w o;refine wpIn_block (wpIn_mono (h a w o) fun e a' w' ⟨s',h1,A⟩=>?_);cases e with|exit D=>simp only[Exit.inBlock,bEN]at A|-;grind|_=>assumption
theorem AWp.cond {x:Operand} {c d:Code} {Q:Exit->AS->Prop} {s:AS} (b:Bool) (A:s.view.ev x=.val (.bool b)) (D:b=true->AWp P C c Q s) (E:b=false->AWp P C d Q s):AWp P C (.cond x c d) Q s:=by intro a w G;obtain⟨fz,ρ,h⟩:=G;have o:=h.ev x;rw[A]at o;simp only[Holds]at o;exact wpIn_cond_split o (fun e=>D e a w ⟨fz,ρ,h⟩) (fun e=>E e a w ⟨fz,ρ,h⟩)
theorem AWp.region {id:Nat} {o:List Bool} {L:List ROp} (R:List Res) {Q:Exit->AS->Prop} {s s':AS} {ob:Prop} (A:lN P ops o ops.toList=some L) (E:fZ C.N L=true) (D:aAH P L (cT L R) s=some (s',ob)) (G:ob) (I:Q .normal s'):AWp P C (.region id ops false) Q s:=by intro a w J;grind [wL,aHA]
theorem AWp.regionD {id:Nat} (hm:P.follows .mixedOrders=true) {I:List Bool} {L:List ROp} (R:List Res) {Q:Exit->AS->Prop} {s s':AS} {ob:Prop} (D:lN P ops I ops.toList=some L) (J:fZ C.N L=true) (o:uB L 0=true) (A:jH (gU L []) (mT P L (cT L R) s) 0=true) (G:aAH P L (cT L R) s=some (s',ob)) (K:ob) (Z:Q .normal s'):AWp P C (.region id ops true) Q s:=by intro a w hs;obtain⟨E,hR,hV,hl,Y⟩:=wL L _ s s' ob G K J;refine bME hm D hR ⟨fun i r M e he=>by simpa using uA L 0 o i r M e he,fun i j r r' e e' O M he S U=>?_⟩ hs fun a' w' W=>⟨s',by rw[<-hV];exact W,Z⟩;have:=aFD _ 0 A i j _ _ O (Y i r e M he) (Y j r' e' S U);simp_all
theorem aPO {F:Fence} {n:Nat} {U:Type} {c:Code} {Q:Exit->Act->World->Prop} {a:Act} {w:World} (J:U->Act->World->Prop) (S:U->Nat) (s0:U) (h0:J s0 a w) (round:∀s a w,J s a w->c.wpIn F n P (Exit.then (fun a' w'=>∃s',J s' a' w'/\S s'<S s) Q) a w):(Code.loop c).wpIn F n P Q a w:=by
 intro b k cs W Y Z;have key:∀j s a w,S s=j->J s a w-> ∃e a' w',Q e a' w'/\ArrivesIn (Machine.fenced P F) P (lone (b.atR a (.code c:: .inLoop c::k)) cs w) b k cs e a' w':=by intro j;induction j using Nat.strongRecOn with|_ j ih=>intro s a w hn hI;obtain⟨e,A,D,G,o⟩:=round s a w hI b (.inLoop c::k) cs W Y Z;cases e with|normal=>obtain⟨s',I,aa⟩:=G;obtain⟨L,M,O,K,E⟩:=ih (S s') (hn▸aa) s' A D rfl I;exact⟨L,M,O,K,.of_steps (StepsIn.trans o (.one (fenced_calm Y Z rfl) stepR_inLoop)) E⟩|exit id=>exact⟨_,A,D,G,.pass (x:=.inLoop c) rfl (fun _ _=>.inl (by simp)) o⟩|goto l=>exact⟨_,A,D,G,.pass (x:=.inLoop c) rfl (fun _ _=>.inl (by simp)) o⟩|ret=>exact⟨_,A,D,G,.pass (x:=.inLoop c) rfl (fun _ _=>.inl (by simp)) o⟩|panic ch=>exact⟨_,A,D,G,.pass (x:=.inLoop c) rfl (fun _ _=>.inl (by simp)) o⟩|outgrown=>exact⟨_,A,D,G,.pass (x:=.inLoop c) rfl (fun _ _=>.inl (by simp)) o⟩
 obtain⟨e,a',w',G,o⟩:=key _ s0 a w rfl h0;exact⟨e,a',w',G,.of_steps (.one (fenced_calm Y Z rfl) stepR_loop) o⟩
theorem AWp.loop {c:Code} {Q:Exit->AS->Prop} {s:AS} (I:AS->Prop) (o:AS->Nat) (D:I s) (round:∀s,I s->AWp P C c (fun e s'=>match e with| .normal=>I s'/\o s'<o s|e=>Q e s') s):AWp P C (.loop c) Q s:=by intro a w E;refine aPO (fun s a w=>I s/\Sim C s.view a w) o s ⟨D,E⟩ fun s a w h=>wpIn_mono (round s h.1 a w h.2) fun e a' w' ⟨s',h1,A⟩=>?_;cases e with|normal=>exact⟨s',⟨A.1,h1⟩,A.2⟩|_=>assumption
end Go.Aw
end
