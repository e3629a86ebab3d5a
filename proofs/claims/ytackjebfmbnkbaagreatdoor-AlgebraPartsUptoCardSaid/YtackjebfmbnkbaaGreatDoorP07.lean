/- Forgetting; a function's iQ out of its code. -/
import Derived.Test.YtackjebfmbnkbaaGreatDoorP06
import Derived.ChangeStays
import Derived.ReadAgain
import Derived.ChangeSame
import Derived.ChangeShapes
set_option linter.unusedSimpArgs false
set_option linter.unusedVariables false
set_option linter.unusedSectionVars false
section
namespace Go.Aw
variable [GL]
variable {P:Program} {C:Ctx} {V:View} {a:Act} {w:World} {fz:Fz} {ρ:Ren}
theorem SimE.forget (h:SimE C V a w fz ρ) {E:View} (l:List Nat) (Z:∀t,E.tm t=V.tm t\/E.tm t=.unk) (U:∀t,within l (E.tm t)=true) (S:∀b,E.hp b=if l.contains b then V.hp b else none) (W:∀b k,E.hp b=some k->k.within l):SimE C E a w fz (fun b=>if l.contains b then ρ b else none):=by
 let ρ':Ren:=fun b=>if l.contains b then ρ b else none
 have D:∀b,l.contains b=true->ρ' b=ρ b:=fun b S=>by grind
 have G:∀p,aG (E.at p)=true->E.at p=V.at p/\bM a w ρ' p=bM a w ρ p:=by intro p hp;cases p with|t i=>rcases Z i with e|e;{exact⟨e,rfl⟩};{simp only[View.at,e]at hp;cases hp}|c b j=>simp only[View.at,S]at hp|-;split at hp;{rename_i L;exact⟨by rw[if_pos L],by simp only[bM,D b L]⟩};simp_all [aG]
 show SimE C E a w fz ρ';refine{h with
  tm:=fun t=>?_,hp:=fun b k hk=>?_,dom:=fun b I=>?_,inj:=fun b b' c h1 A=>?_,tips:=fun p e wd rows hp=>?_,tipinj:=fun p q hp hq g g' n n' c M af ag hg=>?_,
  keep:=fun b c M h1 A=>by simp only[ρ']at A;split at A;exact h.keep b c M h1 A;cases A
  br:=fun b c M h1 A=>by simp only[ρ']at A;split at A;exact h.br b c M h1 A;cases A}
 {rcases Z t with e|e;{have:=(h.tm t).within D _ _ (by rw[<-e];exact U t);rw[e];exact this};simp_all [Holds]};{have Y:=hk;rw[S]at hk;split at hk;{rename_i L;obtain⟨c,hc,h1,A,h3⟩:=h.hp b k hk;refine⟨c,by rw[D b L];exact hc,h1,?_,h3⟩;have hw:=W b k Y;cases k with|cells e cs=>obtain⟨cur,x1,J,K⟩:=A;exact⟨cur,x1,J.within D _ _ hw,K⟩|map ks vs=>obtain⟨es,clock,x1,J,K,O⟩:=A;exact⟨es,clock,x1,J,K.within D _ _ hw,O⟩|mapd ks vs=>obtain⟨es,clock,x1,J,K,O⟩:=A;exact⟨es,clock,x1,J,K.within D _ _ hw,O⟩|hid l o=>exact A};{cases hk}};{rw[S]at I;simp only[ρ'];split at I;{rename_i L;rw[if_pos L];exact h.dom b I};simp_all};{simp only[ρ']at h1 A;split at h1;{split at A;{exact h.inj b b' c h1 A};{cases A}};{cases h1}};{obtain⟨h1,A⟩:=G p (by rw[hp];rfl);rw[A];rcases h.tips p e wd rows (by simp_all)with hh|⟨g,cap,cur,x1,J,K,O,x5,x6,x7,x8,x9⟩;{exact .inl hh};{refine .inr ⟨g,cap,cur,x1,J,K,O,x5,x6,x7,x8,fun b=>?_⟩;grind}};{obtain⟨h1,A⟩:=G p hp;obtain⟨h3,h4⟩:=G q hq;exact h.tipinj p q (by simp_all) (by simp_all) g g' n n' c M (by simp_all) (by simp_all) hg}
def weakP:AV->AV->Prop
 | .val (.slice none 0 0),.own _ _ rows=>rows=[]
 | .val (.slice none 0 0),.rd _ rows=>rows=[]
 | .val (.slice none 0 0),.fx _ rows=>rows=[]
 | .own _ w rows,.rd w' o=>w=w'/\rows=o
 | .fx w rows,.rd w' o=>w=w'/\rows=o
 |_,.unk=>True
 |_,_=>False
theorem weakP.holds {x y:AV} (h:weakP x y) {ρ:Ren} {v:Value} (o:Holds fz x ρ v):Holds fz y ρ v:=by unfold weakP at h;split at h;{subst h;simp only[Holds]at o|-;subst o;exact⟨none,0,rfl,Nat.le_refl _,by simp⟩};{subst h;simp only[Holds]at o|-;subst o;exact⟨none,0,rfl,Nat.le_refl _,by simp⟩};{subst h;simp only[Holds]at o|-;subst o;exact⟨none,rfl,by simp⟩};{obtain⟨rfl,rfl⟩:=h;simpa only[Holds]using o};{obtain⟨rfl,rfl⟩:=h;simp only[Holds]at o|-;obtain⟨a,e,h⟩:=o;exact⟨a,_,e,Nat.le_refl _,h⟩};{simp only[Holds]};{exact h.elim}
theorem weakP.own {x y:AV} (h:weakP x y) (o:aG y=true):x=.val (.slice none 0 0)/\ ∃e w,y=.own e w []:=by unfold weakP at h;grind [aG]
def wkL:List AV->List AV->Prop
 |[],[]=>True
 |x::l,y::r=>(x=y\/weakP x y)/\(l=r\/wkL l r)
 |_,_=>False
theorem wkL.get {l r:List AV} (h:l=r\/wkL l r):l.length=r.length/\ ∀ (i:Nat) (x y:AV),l[i]? =some x->r[i]? =some y->x=y\/weakP x y:=by
 rcases h with rfl|h;{simp_all}
 ·induction l generalizing r with
   |nil=>cases r with
    |nil=>simp
    |cons y r=>exact h.elim
   |cons x l o=>cases r with
    |nil=>exact h.elim
    |cons y r=>
     obtain⟨h1,A⟩:=h
     grind
def wkB:Blk->Blk->Prop
 | .cells e cs,.cells A cs'=>e=A/\(cs=cs'\/wkL cs cs')
 | .map ks vs,.map ks' vs'=>ks=ks'/\(vs=vs'\/wkL vs vs')
 | .mapd ks vs,.mapd ks' vs'=>ks=ks'/\(vs=vs'\/wkL vs vs')
 | .map ks vs,.mapd ks' vs'=>ks=ks'/\(vs=vs'\/wkL vs vs')
 | .hid l o,.hid D E=>l=D/\o=E
 |_,_=>False
theorem wkB.at {k o:Blk} (h:wkB k o) (j:Nat):k.at j=o.at j\/weakP (k.at j) (o.at j):=by
 have key:∀ {l r:List AV},(l=r\/wkL l r)->l.getD j .unk=r.getD j .unk\/weakP (l.getD j .unk) (r.getD j .unk):=by intro l r h;obtain⟨e,D⟩:=wkL.get h;rw[List.getD_eq_getElem?_getD,List.getD_eq_getElem?_getD];cases A:l[j]? with|none=>rw[List.getElem?_eq_none (by have:=List.getElem?_eq_none_iff.1 A;omega)];exact .inl rfl|some x=>have:j<r.length:=(by have:=(List.getElem?_eq_some_iff.1 A).1;omega);rw[List.getElem?_eq_getElem this];exact D j x _ A (List.getElem?_eq_getElem this)
 cases k<;>cases o<;>simp only[wkB]at h;{exact key h.2};{exact key h.2};{exact key h.2};{exact key h.2};simp[*]
theorem wkB.blkAt {k G:Blk} (h:wkB k G) {ρ:Ren} {c:Nat} (hk:BlkAt fz ρ w c k):BlkAt fz ρ w c G:=by
 have key:∀ {l r:List AV} {vs:List Value},(l=r\/wkL l r)->HoldsL fz l ρ vs->HoldsL fz r ρ vs:=by intro l r vs h I;obtain⟨e,L⟩:=wkL.get h;refine HoldsL.of_get _ _ _ (by rw[I.len,e]) fun i y v J M=>?_;have hi:i<l.length:=(by have:=(List.getElem?_eq_some_iff.1 J).1;omega);obtain⟨O,D,K⟩:=I.get _ _ _ i l[i] (List.getElem?_eq_getElem hi);rw[M]at D;cases D;rcases L i l[i] y (List.getElem?_eq_getElem hi) J with e|hw;{rw[<-e];exact K};{exact hw.holds K}
 cases k<;>cases G<;>simp only[wkB]at h;{obtain⟨rfl,h⟩:=h;obtain⟨cur,x1,o,A⟩:=hk;exact⟨cur,x1,key h o,A⟩};{obtain⟨rfl,h⟩:=h;obtain⟨es,clock,x1,o,A,E⟩:=hk;exact⟨es,clock,x1,o,key h A,E⟩};{obtain⟨rfl,h⟩:=h;obtain⟨es,clock,x1,o,A,E⟩:=hk.weakMap;exact⟨es,clock,x1,o,key h A,E⟩};{obtain⟨rfl,h⟩:=h;obtain⟨es,clock,x1,o,A,E⟩:=hk;exact⟨es,clock,x1,o,key h A,E⟩};simp_all
theorem SimE.weak (h:SimE C V a w fz ρ) {D:View} (ht:∀t,V.tm t=D.tm t\/weakP (V.tm t) (D.tm t)) (U:∀b,(V.hp b=none/\D.hp b=none)\/ ∃k O,V.hp b=some k/\D.hp b=some O/\wkB k O):SimE C D a w fz ρ:=by
 have K:∀p,V.at p=D.at p\/weakP (V.at p) (D.at p):=by intro p;cases p with|t i=>exact ht i|c b j=>simp only[View.at];rcases U b with⟨e1,A⟩|⟨k,O,e1,A,hk⟩;{simp[*]};{rw[e1,A];exact hk.at j}
 have I:∀p v,Holds fz (V.at p) ρ v->Holds fz (D.at p) ρ v:=by intro p v S;rcases K p with e|e;{simp_all};{exact e.holds S}
 have W:∀p,V.at p=.val (.slice none 0 0)->bM a w ρ p=.slice none 0 0:=by intro p hp;cases p with|t i=>have:=h.tm i;simp only[View.at]at hp;rw[hp]at this;assumption|c b j=>simp only[View.at]at hp;cases hk:V.hp b with|none=>simp_all|some k=>rw[hk]at hp;simp only[Option.map_some,Option.getD_some]at hp;obtain⟨c,hc,_,Y,_⟩:=h.hp b k hk;cases k with|cells e cs=>(obtain⟨cur,x1,L,_⟩:=Y;simp only[Blk.at,List.getD_eq_getElem?_getD]at hp;cases G:cs[j]? with|none=>simp_all|some x=>rw[G]at hp;simp at hp;subst hp;obtain⟨v,S,hh⟩:=L.get _ _ _ j _ G;simp_all [Holds,bM,cQ,Array.getD_eq_getD_getElem?])|map ks vs=>(obtain⟨es,clock,x1,_,L,_⟩:=Y;simp only[Blk.at,List.getD_eq_getElem?_getD]at hp;cases G:vs[j]? with|none=>simp_all|some x=>rw[G]at hp;simp at hp;subst hp;obtain⟨v,S,hh⟩:=L.get _ _ _ j _ G;grind [Holds,bM,cQ])|hid l o=>grind [Blk.at]|mapd ks vs=>obtain⟨es,clock,x1,_,L,_⟩:=Y;simp only[Blk.at,List.getD_eq_getElem?_getD]at hp;cases G:vs[j]? with|none=>simp_all|some x=>rw[G]at hp;simp at hp;subst hp;obtain⟨v,S,hh⟩:=L.get _ _ _ j _ G;grind [Holds,bM,cQ]
 have E:∀p,aG (D.at p)=true->V.at p=D.at p\/(bM a w ρ p=.slice none 0 0/\ ∃e wd,D.at p=.own e wd []):=by intro p hp;rcases K p with e|e;{simp[*]};{obtain⟨h1,h2⟩:=e.own hp;simp[*]}
 refine{h with
  tm:=fun t=>I (.t t) _ (h.tm t),hp:=fun b O M=>?_,dom:=fun b ag=>?_,tips:=fun p e wd rows hp=>?_,tipinj:=fun p q hp hq g g' n n' c c' Z J hg=>?_}
 {rcases U b with⟨e1,A⟩|⟨k,k2,e1,A,hk⟩;{simp_all};{rw[A]at M;cases M;obtain⟨c,hc,h1,h2,h3⟩:=h.hp b k e1;exact⟨c,hc,h1,hk.blkAt h2,h3⟩}};{rcases U b with⟨e1,A⟩|⟨k,k2,e1,A,hk⟩;{exact h.dom b e1};simp_all};{rcases E p (by rw[hp];rfl)with e1|⟨e1,A,an,e3⟩;{exact h.tips p e wd rows (by simp[*])};{rw[hp]at e3;cases e3;exact .inl ⟨e1,rfl⟩}};{rcases E p hp with e1|⟨e1,_⟩;{rcases E q hq with A|⟨A,_⟩;{exact h.tipinj p q (by rw[e1];exact hp) (by rw[A];exact hq) g g' n n' c c' Z J hg};{rw[A]at J;cases J}};simp_all}
def wk1:Option AV->AV->Prop
 |some y,x=>y=x\/weakP y x
 |none,_=>False
def wk2:Option Blk->Blk->Prop
 |some y,x=>wkB y x
 |none,_=>False
theorem cAD (x:AV):wk1 (some x) x=True:=by simp[wk1]
theorem cAC (x y:AV):wk1 (some y) x=(y=x\/weakP y x):=rfl
theorem bZY (x:Blk):wk2 (some x) x=True:=by cases x<;>simp[wk2,wkB]
theorem bTD (e o:TypeId) (cs cs':List AV):wk2 (some (.cells e cs)) (.cells o cs')=(e=o/\(cs=cs'\/wkL cs cs')):=rfl
theorem cIK (ks ks':List Value) (vs vs':List AV):wk2 (some (.map ks vs)) (.map ks' vs')=(ks=ks'/\(vs=vs'\/wkL vs vs')):=rfl
theorem cAA (ks ks':List Value) (vs vs':List AV):wk2 (some (.mapd ks vs)) (.mapd ks' vs')=(ks=ks'/\(vs=vs'\/wkL vs vs')):=rfl
theorem bZZ (ks ks':List Value) (vs vs':List AV):wk2 (some (.map ks vs)) (.mapd ks' vs')=(ks=ks'/\(vs=vs'\/wkL vs vs')):=rfl
theorem cAB {o:Option AV} {x:AV} (h:wk1 o x):∃y,o=some y/\(y=x\/weakP y x):=by cases o with|none=>exact h.elim|some y=>exact⟨y,rfl,h⟩
theorem bZX {o:Option Blk} {x:Blk} (h:wk2 o x):∃y,o=some y/\wkB y x:=by cases o with|none=>exact h.elim|some y=>exact⟨y,rfl,h⟩
def gZ (l:List Nat) (s:AS):List (Nat×AV)->Prop
 |[]=>True
 |(t,x)::r=>wk1 (lk s.tm t) x/\within l x=true/\gZ l s r
def wE (l:List Nat) (s:AS):List (Nat×Blk)->Prop
 |[]=>True
 |(b,k)::r=>wk2 (lk s.hp b) k/\k.within l/\wE l s r
def AS.le (s' s:AS):Prop:=gZ (s'.hp.map (·.1)) s s'.tm/\wE (s'.hp.map (·.1)) s s'.hp
theorem aAV {l:List Nat} {s:AS}:∀ {r:List (Nat×AV)},gZ l s r-> ∀t x,lk r t=some x->(∃y,lk s.tm t=some y/\(y=x\/weakP y x))/\within l x=true
 |[],_,t,x,h=>by grind [lk]
 |(u,y)::r,hw,t,x,h=>by simp only[gZ]at hw;simp only[lk]at h;split at h;{simp_all [cAB]};{exact aAV hw.2.2 t x h}
theorem aAW {l:List Nat} {s:AS}:∀ {r:List (Nat×Blk)},wE l s r-> ∀t x,lk r t=some x->(∃k0,lk s.hp t=some k0/\wkB k0 x)/\x.within l
 |[],_,t,x,h=>by grind [lk]
 |(u,y)::r,hw,t,x,h=>by simp only[wE]at hw;simp only[lk]at h;split at h;{simp_all [bZX]};{exact aAW hw.2.2 t x h}
theorem lZ {α:Type}:∀ (r:List (Nat×α)) (b:Nat),(r.map (·.1)).contains b=true↔ ∃x,lk r b=some x
 |[],b=>by simp[lk]
 |(u,y)::r,b=>by simp only[List.map_cons,List.contains_cons,lk,Bool.or_eq_true,beq_iff_eq];by_cases e:u=b;{simp[*]};{have:¬b=u:=fun h=>e h.symm;simp only[this,false_or,e,if_false];exact lZ r b}
theorem SimE.forgetS {s s':AS} (hle:s'.le s) (h:SimE C s.view a w fz ρ):SimE C s'.view a w fz (fun b=>if(s'.hp.map (·.1)).contains b then ρ b else none):=by
 let A:View:={tm:=fun t=>(lk s'.tm t).getD ((lk s.tm t).getD .unk),hp:=fun b=>match lk s'.hp b with|some k=>some k|none=>lk s.hp b}
 have h1:SimE C A a w fz ρ:=by refine h.weak (fun t=>?_) (fun b=>?_);{simp only[A];cases o:lk s'.tm t with|none=>exact .inl rfl|some x=>obtain⟨⟨y,h1,D⟩,_⟩:=aAV hle.1 t x o;simp_all [AS.view,Option.getD_some]};{simp only[A];cases o:lk s'.hp b with|none=>(cases E:lk s.hp b with|none=>exact .inl ⟨E,rfl⟩|some k=>exact .inr ⟨k,k,E,rfl,by cases k<;>simp[wkB]⟩)|some k=>obtain⟨⟨k0,h1,D⟩,_⟩:=aAW hle.2 b k o;exact .inr ⟨k0,k,h1,rfl,D⟩}
 refine h1.forget (s'.hp.map (·.1)) (fun t=>?_) (fun t=>?_) (fun b=>?_) (fun b k hk=>?_);{cases o:lk s'.tm t with|none=>simp_all [AS.view]|some x=>grind [AS.view]};{cases o:lk s'.tm t with|none=>simp[AS.view,o,Aw.within]|some x=>have:=aAV hle.1 t x o;simp_all [AS.view]};{cases o:lk s'.hp b with|none=>have:¬ (s'.hp.map (·.1)).contains b=true:=(by rw[lZ];rintro⟨x,e⟩;rw[o]at e;cases e);show lk s'.hp b=_;simp_all|some k=>have:(s'.hp.map (·.1)).contains b=true:=(by rw[lZ];exact⟨k,o⟩);show lk s'.hp b=_;grind};{exact(aAW hle.2 b k hk).2}
theorem Sim.forget {s s':AS} (hle:s'.le s) (h:Sim C s.view a w):Sim C s'.view a w:=by obtain⟨fz,ρ,h⟩:=h;exact⟨fz,_,h.forgetS hle⟩
theorem AWp.forget {c:Code} {Q:Exit->AS->Prop} {s s':AS} (hle:s'.le s) (h:AWp P C c Q s'):AWp P C c Q s:=fun a w o=>h a w (o.forget hle)
def aGX (P:Program) (s:AS):ResultVar->Option AV
 | .tmp t=>lk s.tm t
 | .cell t ty=>match lk s.tm t,nU P ty,qD P ty with
  |some (.ptr b off),some o,some n=>match lk s.hp b with
   |some (.cells _ cs)=>wQ n o off cs
   |_=>none
  |_,_,_=>none
def jF (P:Program) (s:AS):List ResultVar->Option (List AV)
 |[]=>some []
 |v::r=>match aGX P s v,jF P s r with
  |some x,some l=>some (x::l)
  |_,_=>none
def kR:List AV->AV
 |[x]=>x
 |l=>.tup l
def Ends (P:Program) (vars:List ResultVar) (r:AV) (s:AS):Prop:=∃l,jF P s vars=some l/\Rsv (lk s.hp) (kR l) r
def yI (tmps:Array Value):ResultVar->Sem Value
 | .tmp t=>pure (tmps.getD t undef)
 | .cell t ty=>do loadVar ty (<-asAddr (tmps.getD t undef))
theorem yG (fn:Func) (tmps:Array Value):results fn tmps=(do
  let vs<-fn.results.mapM (yI tmps)
  pure (if h:vs.size=1 then vs[0]else .tuple vs)):=by
 rfl
theorem aMU {s:AS} (h:SimE C s.view a w fz ρ) {v:ResultVar} {x:AV} (o:aGX P s v=some x): ∃u,(yI a.tmps v).run P w=.ok u w/\Holds fz x ρ u/\ (aG x=true-> ∃p,s.view.at p=x/\bM a w ρ p=u):=by
 cases v with
 |tmp t=>
  simp only[aGX]at o
  have:=h.tm t
  have G:s.view.tm t=x:=by simp[AS.view,o]
  rw[G]at this
  exact⟨_,rfl,this,fun _=>⟨.t t,G,rfl⟩⟩
 |cell t ty=>
  simp only[aGX]at o
  split at o
  ·rename_i b off Y n M I O
   split at o
   ·rename_i e cs S
    have G:s.view.tm t=.ptr b off:=by simp[AS.view,M]
    have h1:=h.tm t
    rw[G]at h1
    simp only[Holds]at h1
    obtain⟨c,J,A⟩:=h1
    obtain⟨Z,D,_,⟨cur,E,U,_⟩,_⟩:=h.hp b _ S
    rw[J]at D;cases D
    obtain⟨u,K,W⟩:=tH (P:=P) (w:=w) I O (aDT E) U o
    refine⟨u,?_,W,fun L=>by rw[wP o]at L;cases L⟩
    rw[Nat.zero_add]at K
    simp only[yI,A,asAddr,Sem.run_bind,Sem.run_pure,Result.andThen_ok,K]
   ·cases o
  ·cases o
theorem yH {s:AS} (h:SimE C s.view a w fz ρ):∀ (vars:List ResultVar) (l:List AV),jF P s vars=some l-> ∃us:List Value,(vars.mapM (yI a.tmps)).run P w=.ok us w/\HoldsL fz l ρ us|[],l,o=>by simp_all [jF,Option.some.injEq,HoldsL]|v::r,l,o=>by simp only[jF]at o;split at o;{rename_i x D E A;cases o;obtain⟨u,h1,G,_⟩:=aMU h E;obtain⟨us,I,J⟩:=yH h r D A;refine⟨u::us,?_,by simp only[HoldsL];exact⟨u,us,rfl,G,J⟩⟩;rw[List.mapM_cons];simp only[Sem.run_bind];rw[h1];simp only[Result.andThen_ok];rw[I];simp};{cases o}
open Classical in
noncomputable def aBJ (fz:Fz) (ρ:Ren) (w:World):Fz:=
 {cell:=fun c o=>if ∃b,ρ b=some c then w.cell? ⟨c,o,none⟩else fz.cell c o,obj:=fun c=>if ∃b,ρ b=some c then w.heap[c]? else fz.obj c}
def Ctx.start (w:World) (fz:Fz) (n:Nat):Ctx:={B:=w.heap.size,N:=n,w0:=w,Mu:=fun _=>false,fz0:=fz}
def kF {α:Type}:Nat->List α->List (Nat×α)
 |_,[]=>[]
 |i,x::l=>(i,x)::kF (i+1) l
theorem tR {α:Type}:∀ (l:List α) (i k:Nat),lk (kF i l) (i+k)=l[k]?
 |[],i,k=>by rfl
 |x::l,i,k=>by simp only[kF,lk];cases k with|zero=>simp|succ k=>rw[if_neg (by omega),show i+(k+1)=i+1+k from by omega,tR l (i+1) k];simp
def AS.start (ts:List AV):AS:={tm:=kF 0 (ts.map dem),hp:=[]}
theorem Con.of_code2 {f:FuncId} {fn:Func} {c:Code} {ts:List AV} {r:AV} (hf:P.funcs[f]? =some fn) (hn:(fn.name== "runtime.NumGoroutine")=false) (J:fn.body=some c) (hl:ts.length<=fn.ntmps/\fn.ntmps<=1000) (h:∀C:Ctx,C.N=fn.ntmps->(∀c,C.Mu c=false)->(∀c o v,C.fz0.cell c o=some v->c<C.B)->AWp P C c (fun e s=>(e=.normal\/e=.ret)/\Ends P fn.results.toList r s) (AS.start ts)):Con P f ts r:=by
 obtain⟨hl,aj⟩:=hl;refine⟨⟨fn,hf,hn,by simp[*]⟩,fun fz w vs aa ak ad=>?_⟩;have hlen:=ad.len;refine calls_of_wp hf J ?_;have a1:vs.size=ts.length:=by omega
 have U:SimE (Ctx.start w fz fn.ntmps) (AS.start ts).view {tmps:=vs++Array.replicate (fn.ntmps-vs.size) undef,defers:=[]} w fz bT:=by have W:∀p,aG ((AS.start ts).view.at p)=false:=(by intro p;cases p with|t i=>(simp only[View.at,AS.view,AS.start];have:=tR (ts.map Aw.dem) 0 i;rw[Nat.zero_add]at this;rw[this,List.getElem?_map];cases ts[i]? with|none=>rfl|some x=>exact cV x)|c b j=>rfl);refine{df:=rfl,sz:=?_,tm:=fun t=>?_,hp:=fun b k hk=>by simp[AS.view,AS.start,lk]at hk,dom:=fun _ _=>rfl,inj:=fun b b' c h=>by simp[bT]at h,fcell:=aa.1,fobj:=aa.2,gl:=ak,f0:=Fz.le_refl _,f1:=fun c _ _=>⟨fun _ _ e=>e,fun _ e=>e⟩,tips:=fun p e wd rows hp=>?_,tipinj:=fun p q hp=>?_,os:=rfl,tape:=rfl,output:=.refl _,bsz:=Nat.le_refl _,old:=fun _ _ _=>rfl,mub:=fun c S=>by simp[Ctx.start]at S,keep:=fun b c c' h1=>by simp[Ctx.start,bT]at h1,br:=fun b c c' _ h2=>(by cases h2),nn:=aj,hi:=fun _ _=>rfl,muρ:=fun b c h1=>by simp[Ctx.start,bT]at h1};{simp only[Array.size_append,Array.size_replicate,Ctx.start];omega};{simp only[AS.view,AS.start];have:=tR (ts.map Aw.dem) 0 t;rw[Nat.zero_add]at this;rw[this,List.getElem?_map];cases hx:ts[t]? with|none=>simp[Holds]|some x=>obtain⟨v,hv,hh⟩:=ad.get _ _ _ t x hx;have Y:vs[t]? =some v:=(by simpa using hv);have am:t<vs.size:=(Array.getElem?_eq_some_iff.1 Y).1;have:(vs++Array.replicate (fn.ntmps-vs.size) undef).getD t undef=v:=(by rw[Array.getD_eq_getD_getElem?,Array.getElem?_append_left am,Y];rfl);rw[this];exact hh.dem};{have:=W p;rw[hp]at this;cases this};simp[*]
 refine wp_mono (wpIn_wide.1 (h (Ctx.start w fz fn.ntmps) rfl (fun _=>rfl) (fun c o v hv=>World.block_lt_of_cell? w _ (aa.1 c o v hv)) _ w ⟨fz,bT,U⟩)) ?_;rintro e a' w' ⟨s',⟨fz',ρ',E⟩,he,l,D,K⟩;obtain⟨us,a4,an⟩:=yH E _ _ D;have ae:∃v,(results fn a'.tmps).run P w'=.ok v w'/\Holds fz' (kR l) ρ' v:=by have hm:(fn.results.mapM (yI a'.tmps)).run P w'=.ok us.toArray w':=(by rw[<-Array.toArray_toList (xs:=fn.results),List.mapM_toArray];simp[*]);have a5:=an.len;refine⟨if h:us.toArray.size=1 then us.toArray[0]else .tuple us.toArray,?_,?_⟩;{rw[yG,Sem.run_bind,hm];simp};{cases l with|nil=>simp_all [List.eq_nil_of_length_eq_zero,kR,Holds,HoldsL]|cons x l=>cases l with|nil=>grind [HoldsL,kR]|cons y l=>simp_all [dif_neg,kR,Holds]}
 obtain⟨v,G,ao⟩:=ae;have L:Shows (aBJ fz' ρ' w') fz' w' ρ':=by refine⟨⟨fun b o v e=>?_,fun b o e=>?_⟩,fun b c o v J S=>?_,fun b c o J S=>?_⟩;{simp only[aBJ];split;{exact E.fcell b o v e};{exact e}};{simp only[aBJ];split;{exact E.fobj b o e};{exact e}};{simp only[aBJ];rw[if_pos ⟨b,J⟩];exact S};{simp only[aBJ];rw[if_pos ⟨b,J⟩];exact S}
 have M:∀c,c<w.heap.size-> ¬ ∃b,ρ' b=some c:=by rintro c S ⟨b,J⟩;cases hk:s'.view.hp b with|none=>rw[E.dom b hk]at J;cases J|some k=>obtain⟨c',a6,a7,_⟩:=E.hp b k hk;grind [Ctx.start]
 have hR:∃v A,Ending.returned v=Ending.returned v/\(results fn a'.tmps).run P w'=.ok v w'/\Ext w w'/\fz.le A/\sK A w'/\
  (∀c,c<w.heap.size->(∀o,A.cell c o=fz.cell c o)/\A.obj c=fz.obj c)/\Holds A r bT v/\ ∀el wd rows,r=.own el wd rows->bOX A w w' el wd rows v:=by
  refine⟨v,aBJ fz' ρ' w',rfl,G,⟨E.os,E.tape,E.output,E.bsz,fun k hk=>E.old k hk rfl⟩,Fz.le_trans E.f0 L.le,⟨fun c o v e=>?_,fun c o e=>?_⟩,fun c S=>?_,?_,?_⟩
  ·simp only[aBJ]at e;split at e
   ·exact e
   ·exact E.fcell c o v e
  ·simp only[aBJ]at e;split at e
   ·exact e
   ·exact E.fobj c o e
  ·have W:=M c S
   simp only[aBJ]
   constructor
   ·intro o
    rw[if_neg W]
    cases e:fz'.cell c o with
     |none=>
      cases e2:fz.cell c o with
       |none=>rfl
       |some u=>have:=E.f0.1 c o u e2;simp_all
     |some u=>exact((E.f1 c S rfl).1 o u e).symm
   ·rw[if_neg W]
    cases e:fz'.obj c with
     |none=>
      cases e2:fz.obj c with
       |none=>rfl
       |some u=>have:=E.f0.2 c u e2;simp_all
     |some u=>exact((E.f1 c S rfl).2 u e).symm
  ·exact K.holds E L (fun b k hk=>hk) v ao
  ·intro el wd rows hr
   subst hr
   have I:kR l=.own el wd rows:=by
    generalize kR l=x at K
    cases K;rfl
   obtain⟨x,rfl⟩:∃x,l=[x]:=by
    cases l with
     |nil=>simp_all [kR]
     |cons x l=>cases l with
      |nil=>simp
      |cons y l=>simp_all [kR]
   simp only[kR]at I
   subst I
   cases O:fn.results.toList with
    |nil=>simp_all [jF]
    |cons var rest=>
     rw[O]at D
     simp only[jF]at D
     split at D
     ·rename_i x' l' aq ab
      simp only[Option.some.injEq,List.cons.injEq]at D
      obtain⟨rfl,rfl⟩:=D
      obtain⟨u,hu,hh,hp⟩:=aMU E aq
      obtain⟨p,ar,au⟩:=hp rfl
      have Z:=E.tips p _ _ _ ar
      have ac:rest=[]:=by
       cases rest with
        |nil=>rfl
        |cons v2 r2=>
         simp only[jF]at ab
         split at ab<;>simp at ab
      subst ac
      have av:u=v:=by
       have hm:fn.results= #[var]:=by apply Array.toList_inj.1;simpa using O
       rw[yG,hm]at G
       simp only[Sem.run_bind]at G
       cases var with
        |tmp t=>simp[yI]at G hu;rw[<-hu,G]
        |cell t ty=>
         have I:(#[ResultVar.cell t ty].mapM (yI a'.tmps)).run P w'=.ok #[u] w':=by
          simp[hu]
         rw[I]at G
         simp at G;exact G
      rw[au,av]at Z
      rcases Z with hh|⟨g,cap,cur,x1,x2,x3,x4,x5,x6,x7,x8,x9⟩
      ·exact .inl hh
      ·refine .inr ⟨g,cap,cur,x1,by simpa[Ctx.start]using x2,x3,x4,x5,x6,fun o ho=>?_,?_⟩
       ·simp only[aBJ];rw[if_neg (fun⟨b,J⟩=>x9 b J)];exact x7 o ho
       ·simp only[aBJ];rw[if_neg (fun⟨b,J⟩=>x9 b J)];exact x8
     ·cases D
 obtain⟨v',A,_,af,ag⟩:=hR;rcases he with rfl|rfl;{exact⟨E.df,v',af,v',A,rfl,ag⟩};{exact⟨E.df,v',af,v',A,rfl,ag⟩}
theorem Con.of_code {f:FuncId} {fn:Func} {c:Code} {ts:List AV} {r:AV} (o:P.funcs[f]? =some fn) (A:(fn.name== "runtime.NumGoroutine")=false) (D:fn.body=some c) (E:ts.length<=fn.ntmps/\fn.ntmps<=1000) (h:∀C:Ctx,C.N=fn.ntmps->(∀c,C.Mu c=false)->AWp P C c (fun e s=>(e=.normal\/e=.ret)/\Ends P fn.results.toList r s) (AS.start ts)):Con P f ts r:=
 Con.of_code2 o A D E fun C h1 G _=>h C h1 G
end Go.Aw
end
section
namespace Go.Aw
variable [GL]
variable {P:Program} {C:Ctx} {ops:Array Oper}
def aQU (P:Program):List ROp->List Res->AS->(AS->Prop)->Prop
 |[],_,s,K=>K s
 |r::L,c::R,s,K=>match qM P c r s.view with
  |some e=>e.ob/\aQU P L R (s.app r.dst e) K
  |none=>False
 |_::_,[],_,_=>False
theorem aKH:∀ (L:List ROp) (R:List Res) (s:AS) (K:AS->Prop),aQU P L R s K-> ∃s' ob,aAH P L R s=some (s',ob)/\ob/\K s'|[],R,s,K,h=>⟨s,True,rfl,trivial,h⟩|r::L,[],s,K,h=>h.elim|r::L,c::R,s,K,h=>by simp only[aQU]at h;split at h;{rename_i e he;obtain⟨s',ob,h1,o,A⟩:=aKH L R _ K h.2;exact⟨s',e.ob/\ob,by simp only[aAH,he,h1],⟨h.1,o⟩,A⟩};{exact h.elim}
theorem AWp.regD {id:Nat} {Q:Exit->AS->Prop} {s:AS} (hm:P.follows .mixedOrders=true) (o:List Bool) (L:List ROp) (R:List Res) (E:lN P ops o ops.toList=some L) (G:fZ C.N L=true) (A:uB L 0=true) (h:∀K:AS->Prop,(∀s',Q .normal s'->K s')->aQU P L (cT L R) s K) (D:jH (gU L []) (mT P L (cT L R) s) 0=true):AWp P C (.region id ops true) Q s:=by obtain⟨s',ob,h1,I,J⟩:=aKH L _ s _ (h (Q .normal) (fun _ h=>h));grind [AWp.regionD]
theorem AWp.seqJ {x rest:Code} {Q:Exit->AS->Prop} {s:AS} {Y:Type} (st:Y->AS) (J:Y->Prop) (o:∀y,J y->AWp P C rest Q (st y)) (h1:(∀s y,J y->(st y).le s->bQD P C rest Q .normal s)->AWp P C x (bQD P C rest Q) s):AWp P C (.seq x rest) Q s:=
 AWp.seq (h1 fun _ y A hle=>(o y A).forget hle)
theorem AWp.loopG {c:Code} {Q:Exit->AS->Prop} {s:AS} {X:Type} (st:X->AS) (I:X->Prop) (A:X->Nat) (D:X) (G:I D) (E:(st D).le s) (round:∀x,I x->AWp P C c (fun e s'=>match e with| .normal=>∃o,I o/\A o<A x/\(st o).le s'|e=>Q e s') (st x)):AWp P C (.loop c) Q s:=by
 intro a w J;refine aPO (fun x a w=>I x/\Sim C (st x).view a w) A D ⟨G,J.forget E⟩ fun x a w h=>wpIn_mono (round x h.1 a w h.2) fun e a' w' ⟨s',h1,K⟩=>?_;cases e with
 |normal=>obtain⟨o,L,M,O⟩:=K;exact⟨o,⟨L,h1.forget O⟩,M⟩
 |_=>assumption
theorem RsvL.closed {g:Nat->Option Blk}:∀ {l:List AV},aW l=true->RsvL g l l|[],_=>.nil|x::l,h=>by simp only[aW,Bool.and_eq_true]at h;exact .cons (.closed h.1) (RsvL.closed h.2)
theorem aX {g:Nat->Option Blk} {P:Program} {fn:FuncId} {vs:List AV} {r:AV} (o:aW vs=true) (h:Con P fn vs r):∃ts,RsvL g vs ts/\Con P fn ts r:=⟨vs,.closed o,h⟩
attribute [simp] Nat.add_one_le_iff cAD bZY
attribute [simp low] cAC bTD cIK cAA bZZ
attribute [simp] AS.le gZ wE weakP wkL within bD Blk.within jF aGX kR
attribute [simp] Skipped aQU cT AOp.isCall AS.start kF dem qM eX AOp.opds act cMG oW AS.view lk View.ev View.filt cellsOf bHI aUM AS.app AS.putO AS.put ins AS.setBO AS.setBs AS.setB AS.demP bSR
 bEX aTL aAD aPM aJH wQ bBG bEV aPL bFX cMH cPP cMD cME eqA eqV aUn bSS bSM bnd bGB bJF cLU bSK cMB cMA cLZ bSP aEW cLY bSN bSL bSO bKG bHH cMC aWL cMJ cMF bST aUN aNT bSU bRO cLX mx2 aGA bKF aMm bEW aX1 cLW cLV cMI bKD bKE bSQ bRP aDM cOV aKI
 bWN gK Blk.set Blk.at bOH cGO callee YB lE noref aW flat aNU rH mT dF aSN tbH whk dck chunk
@[simp] theorem oc_int (k:IntKind) (n:Int):(Value.int k n).oneCell'=true:=rfl
@[simp] theorem oc_bool (b:Bool):(Value.bool b).oneCell'=true:=rfl
@[simp] theorem cQH (s:ByteArray):(Value.string s).oneCell'=true:=rfl
@[simp] theorem cRH (a:Option Addr) (n c:Nat):(Value.slice a n c).oneCell'=true:=rfl
@[simp] theorem cON (a:Option Addr):(Value.pointer a).oneCell'=true:=rfl
@[simp] theorem oc_map (a:Option Nat):(Value.map a).oneCell'=true:=rfl
@[simp] theorem oc_func (f:Fn) (a b:Array Value):(Value.func f a b).oneCell'=true:=rfl
@[simp] theorem cOO:Value.nilFunc.oneCell'=true:=rfl
@[simp] theorem cNI:Value.nilIface.oneCell'=true:=rfl
end Go.Aw
end
section
namespace Go.Aw
variable [GL]
theorem qU {ids:List Nat}:∀ {l:List AV},bD ids l=true↔ ∀x∈l,within ids x=true
 |[]=>by simp
 |x::l=>by simp[qU (l:=l)]
theorem tP:∀ {l:List AV},aW l=true↔ ∀x∈l,noref x=true
 |[]=>by simp
 |x::l=>by simp[tP (l:=l)]
theorem aZS:∀ {l:List AV},aNU l=true↔ ∀x∈l,flat x=true
 |[]=>by simp
 |x::l=>by simp[aZS (l:=l)]
@[simp] theorem cMY {α:Type} {ids:List Nat} {f:α->AV} {l:List α}:bD ids (l.map f)=true↔ ∀x∈l,within ids (f x)=true:=by simp[qU]
@[simp] theorem bMU {α:Type} {f:α->AV} {l:List α}:aW (l.map f)=true↔ ∀x∈l,noref (f x)=true:=by simp[tP]
@[simp] theorem cQI {α:Type} {f:α->AV} {l:List α}:aNU (l.map f)=true↔ ∀x∈l,flat (f x)=true:=by simp[aZS]
@[simp] theorem bPW {ids:List Nat} {n:Nat} {x:AV}:bD ids (List.replicate n x)=true↔(n=0\/within ids x=true):=by cases n with|zero=>simp|succ n=>simp[qU]
@[simp] theorem bVQ {n:Nat} {x:AV}:aW (List.replicate n x)=true↔(n=0\/noref x=true):=by cases n with|zero=>simp|succ n=>simp[tP]
theorem bSH {p:AV->Bool} {l:List AV} {i:Nat} {x:AV}:(∀y∈l.set i x,p y=true)↔(∀k (h:k<l.length),k≠i->p l[k]=true)/\(i<l.length->p x=true):=by constructor;{intro h;refine⟨fun k hk o=>?_,fun hi=>h x ?_⟩;{refine h _ (List.mem_iff_getElem.mpr ⟨k,by simpa using hk,?_⟩);grind};{exact List.mem_iff_getElem.mpr ⟨i,by simp[*],by simp⟩}};{intro⟨h1,D⟩ y A;obtain⟨k,hk,e⟩:=List.mem_iff_getElem.mp A;grind}
@[simp] theorem cMX {ids:List Nat} {l:List AV} {i:Nat} {x:AV}:bD ids (l.set i x)=true↔(∀k (h:k<l.length),k≠i->within ids l[k]=true)/\(i<l.length->within ids x=true):=by rw[qU];exact bSH
@[simp] theorem cOR {l:List AV} {i:Nat} {x:AV}:aW (l.set i x)=true↔(∀k (h:k<l.length),k≠i->noref l[k]=true)/\(i<l.length->noref x=true):=by rw[tP];exact bSH
@[simp] theorem cAE {ids:List Nat} {l r:List AV}:bD ids (l++r)=true↔bD ids l=true/\bD ids r=true:=by simp only[qU,List.mem_append];exact⟨fun h=>⟨fun x o=>h x (.inl o),fun x o=>h x (.inr o)⟩,fun h x o=>o.elim (h.1 x) (h.2 x)⟩
@[simp] theorem cIH {l r:List AV}:aW (l++r)=true↔aW l=true/\aW r=true:=by simp only[tP,List.mem_append];exact⟨fun h=>⟨fun x o=>h x (.inl o),fun x o=>h x (.inr o)⟩,fun h x o=>o.elim (h.1 x) (h.2 x)⟩
@[simp] theorem cNS (l:List AV) (i:Nat) (x:AV) (h:i<l.length):l.take i++x::l.drop (i+1)=l.set i x:=by rw[List.set_eq_take_append_cons_drop,if_pos h]
theorem bYE {α:Type} (l:List α):chunk 1 l.length l=l.map fun x=>[x]:=by unfold chunk;apply List.ext_getElem;{simp};simp[List.length_map,List.length_range,List.take_one,List.head?_drop,List.getElem?_eq_getElem]
theorem RsvL.map {α:Type} {g:Nat->Option Blk} {f:α->AV} {l:List α} (h:∀x∈l,noref (f x)=true):RsvL g (l.map f) (l.map f):=.closed (by simp_all)
theorem Rsv.vec1 {g:Nat->Option Blk} {b n:Nat} {e:TypeId} {cs:List AV} (h:g b=some (.cells e cs)) (o:aW cs=true) (A:cs.length=n):Rsv g (.vec b 1 0 n n) (.rd 1 (cs.map fun x=>[x])):=by subst A;have:=Rsv.vec (w:=1) (off:=0) (n:=cs.length) (cap:=cs.length) h (RsvL.closed o) (by simp) (Nat.le_refl _);grind [bYE]
@[simp] theorem cIF {n:Nat} {x y:AV}:wkL (List.replicate n x) (List.replicate n y)↔n=0\/x=y\/weakP x y:=by induction n with|zero=>simp[wkL]|succ n o=>simp only[List.replicate_succ,wkL,o];constructor;{rintro⟨h,_⟩;exact .inr h};{rintro(h|h);{omega};{exact⟨h,.inr (.inr h)⟩}}
end Go.Aw
end
section
namespace Go.Aw
variable [GL]
mutual
inductive Wk:AV->AV->Prop
 |refl (x:AV):Wk x x
 |unk (x:AV):Wk x .unk
 |nil (w:Nat):Wk (.val (.slice none 0 0)) (.rd w [])
 |rd {w:Nat} {rows rows':List (List AV)}:WkR rows rows'->Wk (.rd w rows) (.rd w rows')
 |own {e:TypeId} {w:Nat} {rows rows':List (List AV)}:WkR rows rows'->Wk (.own e w rows) (.rd w rows')
 |fx {w:Nat} {rows rows':List (List AV)}:WkR rows rows'->Wk (.fx w rows) (.rd w rows')
 |agg {l l':List AV}:WkL l l'->Wk (.agg l) (.agg l')
 |tup {l l':List AV}:WkL l l'->Wk (.tup l) (.tup l')
 |rmap {ks:List Value} {l l':List AV}:WkL l l'->Wk (.rmap ks l) (.rmap ks l')
 |kset {ks ks':List Value} {l:List AV} {u:Value->Value}:l=ks.map (fun k=>AV.val (u k))->(∀k,k∈ks↔k∈ks')->Wk (.rmap ks l) (.kset ks' u)
inductive WkL:List AV->List AV->Prop
 |nil:WkL [] []
 |cons {x y:AV} {l l':List AV}:Wk x y->WkL l l'->WkL (x::l) (y::l')
inductive WkR:List (List AV)->List (List AV)->Prop
 |nil:WkR [] []
 |cons {x y:List AV} {l l':List (List AV)}:WkL x y->WkR l l'->WkR (x::l) (y::l')
end
theorem WkL.length:∀ {l o:List AV},WkL l o->o.length=l.length
 |_,_,.nil=>rfl
 |_,_,.cons _ h=>by simp[WkL.length h]
theorem WkR.length:∀ {l o:List (List AV)},WkR l o->o.length=l.length
 |_,_,.nil=>rfl
 |_,_,.cons _ h=>by simp[WkR.length h]
theorem WkR.eqnil {o:List (List AV)}:WkR [] o->o=[]:=fun h=>by cases h;rfl
mutual
theorem Wk.holds {fz:Fz}:∀ {x y:AV},Wk x y-> ∀ρ v,Holds fz x ρ v->Holds fz y ρ v
 |_,_,.refl x,_,_,h=>h
 |_,_,.unk x,_,_,_=>by simp[Holds]
 |_,_,.nil w,_,_,h=>by simp_all [Holds,Nat.le_refl]|_,_,.rd A,_,_,h=>by (simp only[Holds]at h|-;obtain⟨a,c,e,l,h⟩:=h;refine⟨a,c,by rw[A.length];exact e,by rw[A.length];exact l,h.imp (fun h=>?_) fun⟨b,o,e,h⟩=>⟨b,o,e,WkR.holds A _ _ _ h⟩⟩;subst h;exact A.eqnil)|_,_,.own A,_,_,h=>by (simp only[Holds]at h|-;obtain⟨a,c,e,l,h⟩:=h;refine⟨a,c,by rw[A.length];exact e,by rw[A.length];exact l,h.imp (fun h=>?_) fun⟨b,o,e,h⟩=>⟨b,o,e,WkR.holds A _ _ _ h⟩⟩;subst h;exact A.eqnil)|_,_,.fx A,_,_,h=>by (simp only[Holds]at h|-;obtain⟨a,e,h⟩:=h;refine⟨a,_,by rw[A.length];exact e,by rw[A.length];omega,h.imp (fun h=>?_) fun⟨b,o,e,h⟩=>⟨b,o,e,WkR.holds A _ _ _ h⟩⟩;subst h;exact A.eqnil)|_,_,.agg D,_,_,h=>by (simp only[Holds]at h|-;obtain⟨cs,e,h⟩:=h;exact⟨cs,e,WkL.holds D _ _ h⟩)|_,_,.tup D,_,_,h=>by (simp only[Holds]at h|-;obtain⟨cs,e,h⟩:=h;exact⟨cs,e,WkL.holds D _ _ h⟩)|_,_,.rmap D,_,_,h=>by (simp only[Holds]at h|-;rcases h with⟨e,h1,E⟩|⟨c,es,clock,e,I,h1,E⟩;{subst E;cases D;exact .inl ⟨e,h1,rfl⟩};{exact .inr ⟨c,es,clock,e,I,h1,WkL.holds D _ _ E⟩})|_,_,.kset (ks:=ks) (ks':=ks') (u:=u) D hk,_,_,h=>by subst D;simp only[Holds]at h|-;rcases h with⟨e,h1,_⟩|⟨c,es,clock,e,I,h1,E⟩;{simp_all [List.eq_nil_iff_forall_not_mem]};{refine .inr ⟨c,es,clock,e,I,fun J G=>⟨?_,(hk _).1 (by rw[<-h1];exact List.mem_map.2 ⟨J,G,rfl⟩)⟩,fun k O=>?_⟩;{obtain⟨i,hi⟩:=List.mem_iff_getElem?.1 G;have S:ks.length=es.size:=(by rw[<-h1];simp);have U:i<es.size:=(by have:=(List.getElem?_eq_some_iff.1 hi).1;simpa using this);have K:ks[i]? =some J.key:=(by rw[<-h1,List.getElem?_map,hi];rfl);obtain⟨v,L,M⟩:=E.get _ _ _ i (.val (u J.key)) (by rw[List.getElem?_map,K];rfl);rw[List.getElem?_map,hi]at L;simp only[Option.map_some,Option.some.injEq]at L;simp only[Holds]at M;rw[L,M]};grind}
theorem WkL.holds {fz:Fz}:∀ {l o:List AV},WkL l o-> ∀ρ vs,HoldsL fz l ρ vs->HoldsL fz o ρ vs|_,_,.nil,_,_,h=>h|_,_,.cons A D,_,_,h=>by simp only[HoldsL]at h|-;obtain⟨v,r,e,h1,E⟩:=h;exact⟨v,r,e,Wk.holds A _ _ h1,WkL.holds D _ _ E⟩
theorem WkC.holds {fz:Fz}:∀ {l A:List AV},WkL l A-> ∀b o,HoldsC fz l b o->HoldsC fz A b o|_,_,.nil,_,_,h=>h|_,_,.cons D E,_,_,h=>by simp only[HoldsC]at h|-;obtain⟨⟨u,e,o1,h1⟩,G⟩:=h;exact⟨⟨u,e,o1,Wk.holds D _ _ h1⟩,WkC.holds E _ _ G⟩
theorem WkR.holds {fz:Fz}:∀ {l A:List (List AV)},WkR l A-> ∀w b o,HoldsR fz l w b o->HoldsR fz A w b o|_,_,.nil,_,_,_,h=>h|_,_,.cons D E,_,_,_,h=>by simp only[HoldsR]at h|-;obtain⟨e,h1,G⟩:=h;exact⟨by rw[D.length];exact e,WkC.holds D _ _ h1,WkR.holds E _ _ _ G⟩
end
theorem Con.weak {P:Program} {f:FuncId} {ts o:List AV} {r r':AV} (h:Con P f ts r) (E:WkL o ts) (D:Wk r r') (O:aG r'=false):Con P f o r':=by refine⟨h.1,fun fz w vs G I A=>(h.2 fz w vs G I (E.holds _ _ A)).mono fun e w' ⟨v,fz',he,h1,J,K,L,M,_⟩=>⟨v,fz',he,h1,J,K,L,D.holds _ _ M,fun el wd rows D=>?_⟩⟩;simp_all [aG]
theorem Con.args {P:Program} {f:FuncId} {ts o:List AV} {r:AV} (h:Con P f ts r) (D:WkL o ts):Con P f o r:=
 ⟨h.1,fun fz w vs E G A=>h.2 fz w vs E G (D.holds _ _ A)⟩
theorem WkL.refl:∀ (l:List AV),WkL l l|[]=>.nil|x::l=>.cons (.refl x) (WkL.refl l)
theorem Con.res {P:Program} {f:FuncId} {ts:List AV} {r r':AV} (h:Con P f ts r) (o:Wk r r') (A:aG r'=false):Con P f ts r':=h.weak (.refl _) o A
theorem WkR.map {α:Type} {f g:α->List AV}:∀ {l:List α},(∀x∈l,WkL (f x) (g x))->WkR (l.map f) (l.map g)|[],_=>.nil|x::l,h=>.cons (h x (by simp)) (WkR.map fun y o=>h y (by grind))
theorem WkL.map {α:Type} {f g:α->AV}:∀ {l:List α},(∀x∈l,Wk (f x) (g x))->WkL (l.map f) (l.map g)|[],_=>.nil|x::l,h=>.cons (h x (by simp)) (WkL.map fun y o=>h y (by grind))
theorem eK {g:Nat->Option Blk} {P:Program} {fn:FuncId} {vs ts:List AV} {r:AV} (o:aW vs=true) (A:WkL vs ts) (h:Con P fn ts r):∃ts,RsvL g vs ts/\Con P fn ts r:=⟨vs,.closed o,h.args A⟩
end Go.Aw
end
section
namespace Go.Aw
variable [GL]
open Go.ChangeShapes
def frz (w:World):Fz:={cell:=fun b o=>w.cell? ⟨b,o,none⟩,obj:=fun b=>w.heap[b]?}
theorem cPB (w:World):sK (frz w) w:=⟨fun _ _ _ h=>h,fun _ _ h=>h⟩
section
variable {H:Type} {enc:TypeId×Value->H} {P:Program} {w:World} {bulk:DataW H->Nat} {N:Nat} {α β:Type}
structure uF (bulk:DataW H->Nat):Prop where
 pos:∀d,1<=bulk d
 slice:∀elems spare,(elems.map bulk).sum+1<=bulk (.slice elems spare)
 agg:∀parts,(parts.map bulk).sum+1<=bulk (.agg parts)
 str:∀l,l.length+1<=bulk (.lit (.string l))
def Opens (enc:TypeId×Value->H) (P:Program) (w:World) (bulk:DataW H->Nat) (N:Nat) (t:TypeId) (e:α->List AV) (ok:α->Nat->Prop):Prop:=
 ∀n,n<=N-> ∀ (cs:List Value) (x:DataW H×List MemPlace),DataW.trod enc P w 0 (fun _=>true) true n t cs=some x->
  ∃y:α,HoldsL (frz w) (e y) bT cs/\(∀c∈cs,c.oneCell'=true)/\ok y (bulk x.1)
variable {t te:TypeId} {e:α->List AV} {ok ok':α->Nat->Prop}
theorem Opens.mono {M:Nat} (h:Opens enc P w bulk N t e ok) (hm:M<=N):Opens enc P w bulk M t e ok:=fun n o=>h n (Nat.le_trans o hm)
theorem Opens.zero:Opens enc P w bulk 0 t e ok:=by intro n o cs x h;simp_all [DataW.trod]
theorem Opens.map {o:β->List AV} {ok':β->Nat->Prop} (h:Opens enc P w bulk N t e ok) (f:α->β) (he:∀x,o (f x)=e x) (A:∀x b,ok x b->ok' (f x) b):Opens enc P w bulk N t o ok':=by intro n D cs x E;obtain⟨y,h1,G,I⟩:=h n D cs x E;grind
theorem Opens.int {k:IntKind} (o:P.underlying t=some (.int k)):Opens enc P w bulk N t (fun n:Int=>[.val (.int k n)]) (fun n _=>(Lit.int k n).wf=true):=by intro n _ cs x h;grind [DataW.trod_int,HoldsL,Holds,Value.oneCell']
theorem Opens.string (o:uF bulk) (A:P.underlying t=some .string):Opens enc P w bulk N t (fun s:ByteArray=>[.val (.string s)]) (fun s b=>s.size+1<=b):=by intro n _ cs x h;obtain⟨s,rfl,rfl,hw⟩:=DataW.trod_string A h;refine⟨s,by simp[HoldsL,Holds],by simp[Value.oneCell'],?_⟩;have:=o.str s.data.toList;assumption
def SumOK (ok:α->Nat->Prop):List α->Nat->Prop
 |[],b=>1<=b
 |x::l,b=>∃o A,1<=o/\ok x o/\SumOK ok l A/\o+A<=b
theorem SumOK.mono {l:List α}:∀ {b o:Nat},SumOK ok l b->b<=o->SumOK ok l o:=by cases l with|nil=>intro b o h A;exact Nat.le_trans h A|cons x l=>intro b o ⟨D,E,h1,G,I,J⟩ A;exact⟨D,E,h1,G,I,by omega⟩
theorem SumOK.length:∀ {l:List α} {b:Nat},SumOK ok l b->l.length<b
 |[],_,h=>h
 |_::l,b,⟨A,D,h1,_,o,E⟩=>by have:=SumOK.length o;grind
theorem cHJ {a:Addr} {i:Nat} (h:(a.add i).spot=none):(⟨a.block,a.off+i,none⟩:Addr)=a.add i:=by cases a with|mk b o s=>simp only[Addr.add]at h|-;grind
theorem bYY (a:Addr) (i:Nat):(a.add i).block=a.block:=by grind [Addr.add]
theorem cLQ (a:Addr) (i:Nat):(a.add i).off=a.off+i:=by grind [Addr.add]
theorem bYF {a:Addr} {n:Nat} {cs:List Value} (h:w.cells? 0 a n=some cs):cs.length=n/\(∀i (hi:i<cs.length),w.cell? ⟨a.block,a.off+i,none⟩=some cs[i]):=by obtain⟨_,o,A⟩:=World.cells?_some h;grind [World.cell?_spot,List.getElem?_eq_getElem,cHJ]
theorem bWP {cs:List Value} {l:List AV}:∀ {b o:Nat},HoldsL (frz w) l bT cs->(∀i (hi:i<cs.length),w.cell? ⟨b,o+i,none⟩=some cs[i])->(∀c∈cs,c.oneCell'=true)->HoldsC (frz w) l b o:=by intro b o h A h1;refine HoldsC.of_get l b o fun i x D=>?_;obtain⟨v,E,G⟩:=h.get _ _ _ i x D;obtain⟨hi,rfl⟩:=List.getElem?_eq_some_iff.1 E;exact⟨cs[i],A i hi,h1 _ (List.getElem_mem hi),G⟩
theorem Opens.slice (K:uF bulk) (ht:P.underlying t=some (.slice te)) (Y:0<P.cellsOf te) (hl:∀x,(e x).length=P.cellsOf te) (h:Opens enc P w bulk N te e ok): Opens enc P w bulk (N+1) t (fun l:List α=>[.rd (P.cellsOf te) (l.map e)]) (SumOK ok):=by
 intro n hn cs x hx;rcases DataW.trod_slice ht hx with⟨rfl,rfl⟩|⟨a,len,cap,elems,rest,m,hf,rfl,rfl,_,ae,af,L,A,_,_⟩;{exact⟨[],by simp[HoldsL,Holds],by simp,K.pos _⟩}
 ·have key:∀ (k:Nat) (el:List (DataW H×List MemPlace)),(∀i,i<el.length->(w.cells? 0 (a.add ((k+i)*P.cellsOf te)) (P.cellsOf te)).bind (DataW.trod enc P w 0 (fun _=>true) true m te)=el[i]?)->
   ∃l:List α,l.length=el.length/\HoldsR (frz w) (l.map e) (P.cellsOf te) a.block (a.off+k*P.cellsOf te)/\SumOK ok l ((el.map fun x=>bulk x.1).sum+1):=by
   intro k el
   induction el generalizing k with
   |nil=>simp[HoldsR,SumOK]
   |cons y el ih=>
    intro A
    have J:=A 0 (by simp)
    simp only[Nat.add_zero,List.getElem?_cons_zero]at J
    obtain⟨cs,D,Z⟩:=Option.bind_eq_some_iff.1 J
    obtain⟨z,M,O,S⟩:=h m (by omega) cs y Z
    obtain⟨U,G⟩:=bYF D
    obtain⟨l,I,W,E⟩:=ih (k+1) fun i hi=>by
     have:=A (i+1) (by simpa using hi)
     rw[show k+1+i=k+(i+1)from by omega,this];simp
    refine⟨z::l,by simp[I],?_,bulk y.1,_,K.pos _,S,E,by simp;omega⟩
    simp only[List.map_cons,HoldsR]
    refine⟨hl z,bWP M (fun i hi=>?_) O,?_⟩
    ·have:=G i hi
     rwa [bYY,cLQ]at this
    grind
  obtain⟨l,I,W,E⟩:=key 0 elems fun i hi=>(by simp_all);have hr:l=[]\/a.spot=none:=(by cases elems with|nil=>grind|cons y el=>by_cases hw:P.cellsOf te=0;{omega};{right;have J:=A 0 (by simp at L;omega);obtain⟨cs,D,Z⟩:=Option.bind_eq_some_iff.1 J;obtain⟨_,U,G⟩:=World.cells?_some D;grind [List.getElem?_eq_getElem,World.cell?_spot,Addr.add]});refine⟨l,?_,by simp,SumOK.mono E ?_⟩;{simp only[HoldsL,Holds];refine⟨_,_,rfl,⟨some a,cap,by simp[*],by simp[*],?_⟩,rfl⟩;rcases hr with rfl|hr;{simp};{refine .inr ⟨a.block,a.off,?_,by simp_all⟩;cases a with|mk b o s=>simp_all}};{have:=K.slice (elems.map (·.1)) (rest.map (·.1));simp_all [List.map_map,Function.comp_def]}
theorem Opens.opq (o:P.underlying t=some (.slice te)) {X:Type} (mk:(v:Value)->v.oneCell'=true->X) (val:X->Value) (D:∀v h,val (mk v h)=v):Opens enc P w bulk N t (fun x:X=>[.val (val x)]) (fun _ _=>True):=by intro n E cs x A;rcases DataW.trod_slice o A with⟨rfl,rfl⟩|⟨a,len,cap,elems,rest,m,G,rfl,rfl,_⟩;{exact⟨mk (.slice none 0 0) rfl,by grind [HoldsL,Holds],by simp,trivial⟩};{exact⟨mk (.slice (some a) len cap) rfl,by grind [HoldsL,Holds],by simp,trivial⟩}
def OpensF (enc:TypeId×Value->H) (P:Program) (w:World) (bulk:DataW H->Nat) (N:Nat) (off:Nat) (o:List Field) (e:α->List AV) (ok:α->Nat->Prop):Prop:=
 ∀n,n<=N-> ∀ (cs:List Value) (xs:List (DataW H×List MemPlace)),xs.length=o.length->cs.length=(o.map fun f=>P.cellsOf f.type).sum->
  (∀ (i:Nat) (f:Field),o[i]? =some f->off<=f.offset/\DataW.trod enc P w 0 (fun _=>true) true n f.type ((cs.drop (f.offset-off)).take (P.cellsOf f.type))=xs[i]?)->
  ∃y:α,HoldsL (frz w) (e y) bT cs/\(∀c∈cs,c.oneCell'=true)/\ok y ((xs.map fun x=>bulk x.1).sum)
theorem OpensF.nil {off:Nat}:OpensF enc P w bulk N off [] (fun _:Unit=>[]) (fun _ _=>True):=by intro n _ cs xs o A _;simp_all [List.eq_nil_of_length_eq_zero,HoldsL,trivial]
def jB (ok:α->Nat->Prop) (ok':β->Nat->Prop) (x:α×β) (b:Nat):Prop:=∃o A,ok x.1 o/\ok' x.2 A/\o+A<=b
theorem OpensF.cons {off m:Nat} {f:Field} {D:List Field} {I:β->List AV} {ok':β->Nat->Prop} (M:f.offset=off) (hm:P.cellsOf f.type=m) (h1:Opens enc P w bulk N f.type e ok) (O:OpensF enc P w bulk N (off+m) D I ok') (S:∀A∈D,off+m<=A.offset):OpensF enc P w bulk N off (f::D) (fun x:α×β=>e x.1++I x.2) (jB ok ok'):=by
 subst hm M;intro n J cs xs U K o;cases xs with
 |nil=>grind
 |cons x xs=>
  have G:xs.length=D.length:=by simpa using U
  have W:cs.length=P.cellsOf f.type+(D.map fun f=>P.cellsOf f.type).sum:=by simpa using K
  have L:=(o 0 f rfl).2
  simp only[Nat.sub_self,List.drop_zero,List.getElem?_cons_zero]at L
  obtain⟨y,Y,a2,a3⟩:=h1 n J _ _ L
  obtain⟨z,Z,b2,b3⟩:=O n J (cs.drop (P.cellsOf f.type)) xs G (by simp;omega) fun i A E=>by
   have hle:=S A (List.mem_of_getElem? E)
   have:=(o (i+1) A (by simpa using E)).2
   refine⟨hle,?_⟩
   rw[List.drop_drop,show P.cellsOf f.type+(A.offset-(f.offset+P.cellsOf f.type))=A.offset-f.offset from by omega,this];simp
  refine⟨(y,z),?_,fun c K=>?_,_,_,a3,b3,by simp⟩
  ·have:=HoldsL.append Y Z
   rwa [List.take_append_drop]at this
  grind [List.take_append_drop]
theorem Opens.struct (J:uF bulk) {A:Array Field} (K:P.underlying t=some (.struct A)) (D:P.cellsOf t=(A.toList.map fun f=>P.cellsOf f.type).sum) (h:OpensF enc P w bulk N 0 A.toList e ok) (E:∀x b I,ok x b->b+1<=I->ok' x I): Opens enc P w bulk (N+1) t e ok':=by intro n U cs x L;obtain⟨xs,m,W,rfl,M,O,o⟩:=DataW.trod_struct K L;obtain⟨y,S,a2,a3⟩:=h m (by omega) cs xs (by simpa using O) (by rw[M,D]) fun i f G=>⟨Nat.zero_le _,by rw[Nat.sub_zero];exact o i f (by simpa using G)⟩;refine⟨y,S,a2,E _ _ _ a3 ?_⟩;have:=J.agg (xs.map (·.1));simp_all [List.map_map,Function.comp_def]
theorem Opens.structAll (G:uF bulk) {o:Array Field} (I:P.underlying t=some (.struct o)) (A:P.cellsOf t=(o.toList.map fun f=>P.cellsOf f.type).sum) (h:∀N,OpensF enc P w bulk N 0 o.toList e ok) (D:∀x b E,ok x b->b+1<=E->ok' x E): ∀N,Opens enc P w bulk N t e ok'|0=>.zero|N+1=>.struct G I A (h N) D
theorem Opens.sliceAll (A:uF bulk) (D:P.underlying t=some (.slice te)) (o:0<P.cellsOf te) (E:∀x,(e x).length=P.cellsOf te) (h:∀N,Opens enc P w bulk N te e ok): ∀N,Opens enc P w bulk N t (fun l:List α=>[.rd (P.cellsOf te) (l.map e)]) (SumOK ok)|0=>.zero|N+1=>.slice A D o E (h N)
def OpensA (enc:TypeId×Value->H) (P:Program) (w:World) (bulk:DataW H->Nat) (ts:List TypeId) (e:α->List AV) (ok:α->Nat->Prop):Prop:=
 ∀ (vs:List Value) (o:List (DataW H)) (ps:List MemPlace),(∀ (j:Nat) t v,ts[j]? =some t->vs[j]? =some v-> ∃base,Value.okWide P w .any base t v)->
  DataW.TrodAll enc P w 0 (fun _=>true) true ts vs o ps-> ∃y:α,HoldsL (frz w) (e y) bT vs/\ok y ((o.map bulk).sum)
theorem OpensA.nil:OpensA enc P w bulk [] (fun _:Unit=>[]) (fun _ _=>True):=by intro vs o ps _ h;obtain⟨rfl,rfl,rfl⟩:=trodAll_nil h;simp[HoldsL,trivial]
theorem OpensA.cons {ts:List TypeId} {e1:α->AV} {D:β->List AV} {ok':β->Nat->Prop} (h1:∀ (v:Value) (d:DataW H) (ps:List MemPlace) (base:Nat),Value.okWide P w .any base t v->DataW.Trod enc P w 0 (fun _=>true) true t v d ps-> ∃y:α,Holds (frz w) (e1 y) bT v/\ok y (bulk d)) (G:OpensA enc P w bulk ts D ok'):OpensA enc P w bulk (t::ts) (fun x:α×β=>e1 x.1::D x.2) (jB ok ok'):=by intro vs O ps o h;obtain⟨v,vs',d,A,p,q,rfl,rfl,rfl,I,J⟩:=trodAll_cons h;obtain⟨base,E⟩:=o 0 t v rfl rfl;obtain⟨y,S,a2⟩:=h1 v d p base E I;obtain⟨z,U,K⟩:=G vs' A q (fun j L M W E=>o (j+1) L M (by assumption) (by assumption)) J;exact⟨(y,z),by grind [HoldsL],_,_,a2,K,by simp⟩
theorem Opens.argAgg {A:Array Field} (D:P.underlying t=some (.struct A)) (h:∀N,Opens enc P w bulk N t e ok) (v:Value) (d:DataW H) (ps:List MemPlace) (base:Nat) (o:Value.okWide P w .any base t v) (E:DataW.Trod enc P w 0 (fun _=>true) true t v d ps): ∃y:α,Holds (frz w) (.agg (e y)) bT v/\ok y (bulk d):=by unfold Value.okWide at o;rw[D]at o;obtain⟨cs,rfl,_,_⟩:=o;obtain⟨n,G⟩:=E;obtain⟨y,I,a2,a3⟩:=h n n (Nat.le_refl _) _ _ G;grind [Holds,Value.cells]
theorem Opens.argOne {e1:α->AV} (h:∀N,Opens enc P w bulk N t (fun y=>[e1 y]) ok) (v:Value) (d:DataW H) (ps:List MemPlace) (D:v.cells= #[v]) (o:DataW.Trod enc P w 0 (fun _=>true) true t v d ps): ∃y:α,Holds (frz w) (e1 y) bT v/\ok y (bulk d):=by obtain⟨n,A⟩:=o;obtain⟨y,E,a2,a3⟩:=h n n (Nat.le_refl _) _ _ A;grind [HoldsL]
theorem Opens.argSlice (o:P.underlying t=some (.slice te)) {e1:α->AV} (h:∀N,Opens enc P w bulk N t (fun y=>[e1 y]) ok) (v:Value) (d:DataW H) (ps:List MemPlace) (base:Nat) (A:Value.okWide P w .any base t v) (D:DataW.Trod enc P w 0 (fun _=>true) true t v d ps):∃y:α,Holds (frz w) (e1 y) bT v/\ok y (bulk d):=by obtain⟨a,len,cap,rfl⟩:=WideShapes.okWide_slice o A;exact Opens.argOne h _ _ _ rfl D
theorem Opens.argString (o:P.underlying t=some .string) {e1:α->AV} (h:∀N,Opens enc P w bulk N t (fun y=>[e1 y]) ok) (v:Value) (d:DataW H) (ps:List MemPlace) (base:Nat) (A:Value.okWide P w .any base t v) (D:DataW.Trod enc P w 0 (fun _=>true) true t v d ps):∃y:α,Holds (frz w) (e1 y) bT v/\ok y (bulk d):=by obtain⟨s,rfl⟩:=WideShapes.okWide_string o A;exact Opens.argOne h _ _ _ rfl D
theorem Ext.sameAt {w':World} (h:Ext w w') {p:MemPlace} (hp:p.block<w.heap.size):w.sameAt w' p:=by cases p with|cell b o=>exact World.cell?_of_block (w:=w) (h.block b hp)|map b=>exact h.block b hp
theorem Ext.trodAll {w':World} (A:Ext w w') (K:Kids P (· <P.types.size)) (G:∀t e,t<P.types.size->P.underlying t=some (.slice e)->0<P.cellsOf e) {I:Nat->Bool}:∀ {ts:List TypeId} {vs:List Value} {D:List (DataW H)} {ps:List MemPlace},(∀t∈ts,t<P.types.size)->DataW.TrodAll enc P w 0 (fun _=>true) true ts vs D ps->(∀p∈ps,p.block<w.heap.size->I p.block=true)->DataW.TrodAll enc P w' 0 I true ts vs D ps|[],[],[],_,_,h,_=>h|t::ts,v::vs,d::D,_,J,⟨p,q,⟨n,h1⟩,M,e⟩,L=>by (subst e;have o:=DataW.trod_lt n _ _ _ h1;refine⟨p,q,⟨n,?_⟩,Ext.trodAll A K G (fun t E=>J t (List.mem_cons_of_mem _ E)) M (fun x A=>L x (List.mem_append_right _ A)),rfl⟩;exact DataW.trod_stays (T:=(· <P.types.size)) K (fun E=>G _ _ E) (fun h=>by cases h) (J t (List.mem_cons_self)) h1 (fun p hp=>A.sameAt (o p hp)) (fun p hp=>L p (List.mem_append_left _ hp) (o p hp)))|[],_::_,_,_,_,h,_=>h.elim|[],[],_::_,_,_,h,_=>h.elim|_::_,[],_,_,_,h,_=>h.elim|_::_,_::_,[],_,_,h,_=>h.elim
theorem Ext.kept {w':World} (h:Ext w w') (may:MemPlace->Prop) (o:w'.output=w.output):w.keptBut w' may:=by refine⟨h.os,o,fun i hi=>?_⟩;rw[h.block i hi];grind
theorem bUY {f:Func} {s:ChangeSpec} {W I:World} {args:Array Value} {o gs:List (DataW H)} {before:List MemPlace} {tb:TypeId} (J:s.vars=[]) (hs:∀o:List (DataW H),o.length=f.params.size->s.fn H o={results:=[.lit (.bool true)],args:=o}) (D:f.resultTypes= #[tb]) (E:P.underlying tb=some .bool) (K:Kids P (· <P.types.size)) (O:∀t e,t<P.types.size->P.underlying t=some (.slice e)->0<P.cellsOf e) (S:∀t∈f.params.toList,t<P.types.size) (L:DataW.Whole enc P f.params.toList s.vars false W args.toList o gs before) (G:Ext W I):s.post enc P f false true false false W args (.bool true) I:=by
 have A:=L;obtain⟨p,q,U,M,rfl,Y,_⟩:=L;rw[J]at M;obtain⟨rfl,rfl⟩:=trodVars_none M;have hlen:o.length=f.params.size:=by have:∀ {ts:List TypeId} {vs:List Value} {o:List (DataW H)} {ps:List MemPlace},DataW.TrodAll enc P W 0 (fun _=>true) true ts vs o ps->o.length=ts.length:=(by intro ts;induction ts with|nil=>intro vs o ps h;obtain⟨_,rfl,_⟩:=trodAll_nil h;rfl|cons t ts Z=>intro vs o ps h;obtain⟨_,_,_,_,_,_,_,rfl,_,_,hr⟩:=trodAll_cons h;simp[Z hr]);grind
 rw[List.append_nil]at A;have e1:(s.fn H (o++[])).results=[.lit (.bool true)]:=by simp[*]
 have e2:(s.fn H (o++[])).args=o:=by simp[*]
 have e3:(s.fn H (o++[])).vars=[]:=by simp[*]
 refine⟨o,[],p,[],p,[],A,?_,?_,?_,G.kept _ G.output.out,fun h=>by cases h⟩;{rw[e1,D];exact trodAll_mk1 ⟨1,by simp[DataW.trod,E,Value.cells]⟩};{rw[e2];exact G.trodAll K O S U fun p _ h=>by simp[*]};{rw[e3,J];rfl}
def aEG (P:Program):Bool:=(List.range P.types.size).all fun t=>match P.underlying t with|some (.slice e)=>decide (0<P.cellsOf e)|_=>true
theorem aOL (P:Program) (h:aEG P=true):∀t e,t<P.types.size->P.underlying t=some (.slice e)->0<P.cellsOf e:=by intro t e o A;have:=List.all_eq_true.1 h t (List.mem_range.2 o);simp_all
theorem yS {fid:FuncId} {f:Func} {s:ChangeSpec} {tb:TypeId} {e:α->List AV} (E:s.vars=[]) (hs:∀o:List (DataW H),o.length=f.params.size->s.fn H o={results:=[.lit (.bool true)],args:=o}) (J:f.resultTypes= #[tb]) (K:P.underlying tb=some .bool) (hl:laidOutB P=true) (hm:mapsRowed P=true) (hz:aEG P=true) (hT:∀t∈f.params.toList,t<P.types.size) (W:World) (base:Nat) (args:Array Value) (o gs:List (DataW H)) (before:List MemPlace) (A:∀ (j:Nat) t v,f.params[j]? =some t->args[j]? =some v->Value.okWide P W .any base t v) (G:DataW.Whole enc P f.params.toList s.vars false W args.toList o gs before) (L:OpensA enc P W bulk f.params.toList e ok) (D:GLok (frz W)) (M:∀x,ok x ((o.map bulk).sum)->Con P fid (e x) (.val (.bool true))): Calls P fid args W fun e I=>∃v,e=.returned v/\s.post enc P f false true false false W args v I:=by have O:=G;obtain⟨p,q,S,hV,rfl,U,_⟩:=G;obtain⟨x,h1,Y⟩:=L args.toList o p (fun j t v Z E=>⟨base,A j t v (by simpa using Z) (by simpa using E)⟩) S;refine((M x Y).2 (frz W) W args (cPB W) D h1).mono fun e I ⟨v,fz',he,hx,_,_,_,hh,_⟩=>?_;grind [Holds,bUY,kids_rows,aOL]
end
end Go.Aw
end
