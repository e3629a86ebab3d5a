/- Regions in whatever order, aWA bMQ: what comes before what is handed over aSx a list, and checked. -/
import Derived.Test.YtackjebfmbnkbaaGreatDoorP07
import Derived.ScopeJumps
set_option linter.unusedSimpArgs false
set_option linter.unusedVariables false
set_option linter.unusedSectionVars false
section
namespace Go.Aw
variable [GL]
variable {P:Program} {C:Ctx} {ops:Array Oper}
theorem aEK:∀ (L:List ROp) (acc:List (List Nat)) (e:Nat),e<acc.length->(gU L acc).getD e []=acc.getD e []|[],_,_,_=>rfl|r::L,acc,e,he=>by simp only[gU];rw[aEK L _ e (by grind),List.getD_eq_getElem?_getD,List.getElem?_append_left he,<-List.getD_eq_getElem?_getD]
theorem aYB:∀ (L:List ROp) (acc:List (List Nat)) (i:Nat) (r:ROp),L[i]? =some r->(∀e∈r.after,e<acc.length+i)-> ∀k,(k∈r.after\/ ∃e∈r.after,k∈(gU L acc).getD e [])->k∈(gU L acc).getD (acc.length+i) []
 |[],_,_,_,h,_=>by grind
 |x::L,acc,0,r,h,o=>by (simp at h;subst h;intro k hk;simp only[gU]at hk|-;have e0:(gU L (acc++[x.after++x.after.flatMap (fun e=>acc.getD e [])])).getD (acc.length+0) []=x.after++x.after.flatMap (fun e=>acc.getD e []):=(by rw[aEK L _ _ (by simp)];simp[List.getD_eq_getElem?_getD]);rw[e0];rcases hk with hk|⟨e,he,hk⟩;{exact List.mem_append_left _ hk};grind [List.mem_append_right,aEK,List.getElem?_append_left])|x::L,acc,i+1,r,h,o=>by intro k hk;simp only[gU]at hk|-;have:=aYB L (acc++[x.after++x.after.flatMap (fun e=>acc.getD e [])]) i r (by simpa using h) (fun e he=>by have:=o e he;simp;omega) k hk;grind
def zT (o:List (List Nat)):List ROp->List (List Nat)->Bool
 |_,[]=>true
 |[],_::_=>false
 |r::L,x::xs=>(x.all fun k=>r.after.contains k||r.after.any fun e=>(o.getD e []).contains k)&&zT o L xs
theorem aUD {o:List (List Nat)}:∀ (L:List ROp) (xs:List (List Nat)),zT o L xs=true-> ∀ (i k:Nat),k∈xs.getD i []-> ∃r,L[i]? =some r/\(k∈r.after\/ ∃e∈r.after,k∈o.getD e [])
 |_,[],_,i,k,h=>by grind
 |[],x::xs,h,_,_,_=>by grind [zT]
 |r::L,x::xs,h,i,k,hk=>by simp only[zT,Bool.and_eq_true]at h;cases i with|zero=>simp_all|succ i=>obtain⟨r',h1,A⟩:=aUD L xs h.2 i k (by simpa using hk);simp_all
theorem bHB {L:List ROp} {A:List (List Nat)} (D:uB L 0=true) (h:zT A L A=true):∀ (j k:Nat),k∈A.getD j []->k∈(gU L []).getD j []:=by intro j;induction j using Nat.strongRecOn with|ind j E=>intro k hk;obtain⟨r,h1,G⟩:=aUD L A h j k hk;have o:=fun e he=>uA L 0 D j r h1 e he;have:=aYB L [] j r h1 (fun e he=>by simpa using o e he) k (G.imp id fun⟨e,he,h⟩=>⟨e,he,E e (by have:=o e he;omega) k h⟩);simp_all
theorem aIT {a b:List (List Nat)} (o:∀j k,k∈a.getD j []->k∈b.getD j []) (i:Nat) (x:oD):∀ (l:List oD) (j:Nat),qR a i x l j=true->qR b i x l j=true|[],_,_=>rfl|y::l,j,h=>by simp only[qR,Bool.and_eq_true,Bool.or_eq_true]at h|-;exact⟨h.1.imp (fun q=>by simp_all) id,aIT o i x l (j+1) h.2⟩
theorem aFE {a b:List (List Nat)} (o:∀j k,k∈a.getD j []->k∈b.getD j []):∀ (l:List oD) (i:Nat),jH a l i=true->jH b l i=true|[],_,_=>rfl|x::l,i,h=>by simp only[jH,Bool.and_eq_true]at h|-;exact⟨aIT o i x l (i+1) h.1,aFE o l (i+1) h.2⟩
theorem AWp.regL {id:Nat} {Q:Exit->AS->Prop} {s:AS} (hm:P.follows .mixedOrders=true) (G:List (List Nat)) (D:List Bool) (L:List ROp) (R:List Res) (E:lN P ops D ops.toList=some L) (I:fZ C.N L=true) (o:uB L 0=true) (J:zT G L G=true) (h:∀K:AS->Prop,(∀s',Q .normal s'->K s')->aQU P L (cT L R) s K) (A:jH G (mT P L (cT L R) s) 0=true):AWp P C (.region id ops true) Q s:=
 AWp.regD hm D L R E I o h (aFE (bHB o J) _ _ A)
end Go.Aw
end
section
namespace Go.Aw
variable [GL]
variable {P:Program} {C:Ctx} {V:View} {a:Act} {w:World} {fz:Fz} {ρ:Ren}
def bSY (P:Program) (vars:List ResultVar) (r:AV) (o:List (Nat×Blk)) (s:AS):Prop:=(∃l,jF P s vars=some l/\Lt (kR l) r)/\Aw.within (o.map (·.1)) r=true/\AS.le {tm:=[],hp:=o} s
theorem uN {fn:Func} {s:AS} (D:SimE C s.view a w fz ρ) {l:List AV} (o:jF P s fn.results.toList=some l):∃v,(results fn a.tmps).run P w=.ok v w/\Holds fz (kR l) ρ v:=by
 obtain⟨us,E,A⟩:=yH D _ _ o;have hm:(fn.results.mapM (yI a.tmps)).run P w=.ok us.toArray w:=by rw[<-Array.toArray_toList (xs:=fn.results),List.mapM_toArray];simp[*]
 have G:=A.len;refine⟨if h:us.toArray.size=1 then us.toArray[0]else .tuple us.toArray,?_,?_⟩;{rw[yG,Sem.run_bind,hm];simp};{cases l with|nil=>simp_all [List.eq_nil_of_length_eq_zero,kR,Holds,HoldsL]|cons x l=>cases l with|nil=>grind [HoldsL,kR]|cons y l=>simp_all [dif_neg,kR,Holds]}
open Classical in
noncomputable def Ctx.startM (w:World) (fz:Fz) (ρ:Ren) (H:List (Nat×Blk)) (n:Nat):Ctx:=
 {B:=w.heap.size,N:=n,w0:=w,Mu:=fun c=>decide (rP ρ w (lk H) c),fz0:=fz,ρ0:=ρ}
theorem Mem.mu_lt {H:Nat->Option Blk} (h:Mem fz ρ w H) {c:Nat} (L:rP ρ w H c):c<w.heap.size:=by rcases L with⟨b,E⟩|⟨p,g,n,cap,J,G,rfl⟩;{cases hk:H b with|none=>rw[h.dom b hk]at E;cases E|some k=>obtain⟨M,A,D,_⟩:=h.hp b k hk;rw[E]at A;cases A;cases k with|cells e cs=>obtain⟨cur,h1,_⟩:=D;grind|map ks vs=>obtain⟨es,clock,h1,_⟩:=D;grind|mapd ks vs=>obtain⟨es,clock,h1,_⟩:=D;grind|hid l o=>exact cE D.2};{cases K:(hpV H).at p<;>rw[K]at J<;>simp[aG]at J;rcases h.tips p _ _ _ K with⟨I,_⟩|⟨g2,_,_,I,O,_⟩;{rw[G]at I;cases I};grind}
open Classical in
theorem yD {H:List (Nat×Blk)} {N:Nat} (I:sK fz w) (K:GLok fz) (o:Mem fz ρ w (lk H)) (L:bPA (lk H) ρ) (hN:N<=1000) (hH:∀b k,lk H b=some k->1000<=b/\b<2000) (M:a.defers=[]) (O:a.tmps.size=N) (S:∀t,Holds fz (V.tm t) ρ (a.tmps.getD t undef)) (ab:∀t,aG (V.tm t)=false) (ac:∀b,V.hp b=lk H b):SimE (Ctx.startM w fz ρ H N) V a w fz ρ:=by
 have D:∀c,rP ρ w (lk H) c->(Ctx.startM w fz ρ H N).Mu c=true:=fun c E=>by simp_all [Ctx.startM,decide_eq_true]
 have J:∀c,(Ctx.startM w fz ρ H N).Mu c=true->rP ρ w (lk H) c:=fun c E=>of_decide_eq_true E;have A:∀p,aG (V.at p)=true->(hpV (lk H)).at p=V.at p/\bM aMD w ρ p=bM a w ρ p:=by intro p hp;cases p with|t i=>simp_all [View.at]|c b j=>exact⟨by simp_all [View.at,hpV],rfl⟩
 refine{df:=M,sz:=O,tm:=S,hp:=fun b k hk=>?_,dom:=fun b W=>o.dom b (by simp_all),inj:=o.inj,fcell:=I.1,fobj:=I.2,gl:=K,f0:=Fz.le_refl _,f1:=fun c _ _=>⟨fun _ _ e=>e,fun _ e=>e⟩,tips:=fun p e wd rows hp=>?_,tipinj:=fun p q hp hq g g' n n' c U h1 G h3=>?_,os:=rfl,tape:=rfl,output:=.refl _,bsz:=Nat.le_refl _,old:=fun _ _ _=>rfl,mub:=fun c E=>o.mu_lt (J c E),keep:=fun b c U h1 G=>?_,nn:=hN,br:=fun b c U h1 G=>?_,hi:=fun b W=>?_,muρ:=fun b c h1=>D c (.inl ⟨b,h1⟩)};{obtain⟨c,E,h1,G⟩:=o.hp b k (by simp_all);exact⟨c,E,.inr (D c (.inl ⟨b,E⟩)),h1,G⟩};{have ho:aG (V.at p)=true:=(by rw[hp];rfl);obtain⟨e1,Y⟩:=A p ho;rw[<-Y];rcases o.tips p e wd rows (by simp[*])with hh|⟨Z,cap,cur,x1,x3,x4,x5,x6,x7,x8,x9⟩;{exact .inl hh};{exact .inr ⟨Z,cap,cur,x1,.inr (D Z (.inr ⟨p,_,_,_,by simp_all,x1,rfl⟩)),x3,x4,x5,x6,x7,x8,x9⟩}};{obtain⟨e1,Y⟩:=A p hp;obtain⟨e3,e4⟩:=A q hq;exact o.tipinj p q (by simp[*]) (by simp[*]) g g' n n' c U (by simp[*]) (by simp[*]) h3};{grind [Ctx.startM,Option.some.inj]};{simp only[Ctx.startM]at W|-;cases hk:lk H b with|none=>exact o.dom b hk|some k=>grind};{cases hk:lk H b with|none=>rw[o.dom b hk]at G;cases G|some k=>rw[L b c k h1 hk]at G;simp_all}
open Classical in
theorem sZ {H O:List (Nat×Blk)} {N:Nat} {Z:View} {a':Act} {w':World} {fz':Fz} {ρ':Ren} {r:AV} {v:Value} (S:Mem fz ρ w (lk H)) (U:∀b k,lk H b=some k-> ∃k',lk O b=some k') (A:SimE (Ctx.startM w fz ρ H N) Z a' w' fz' ρ') (J:∀b,Z.hp b=lk O b) (ac:Holds fz' r ρ' v): cHQ (rP ρ w (lk H)) w w'/\fz.le fz'/\sK fz' w'/\(∀c,c<w.heap.size-> ¬rP ρ w (lk H) c->(∀o,fz'.cell c o=fz.cell c o)/\fz'.obj c=fz.obj c)/\ Mem fz' ρ' w' (lk O)/\Ren.le ρ ρ'/\(∀b c,ρ' b=some c->ρ b=some c\/w.heap.size<=c\/rP ρ w (lk H) c)/\ (∀c,rP ρ' w' (lk O) c->w.heap.size<=c\/rP ρ w (lk H) c)/\Holds fz' r ρ' v:=by
 have D:∀c,¬rP ρ w (lk H) c->(Ctx.startM w fz ρ H N).Mu c=false:=fun c K=>by simp_all [Ctx.startM,decide_eq_false]
 have L:∀c,(Ctx.startM w fz ρ H N).Mu c=true->rP ρ w (lk H) c:=fun c K=>of_decide_eq_true K;have G:∀p,aG ((hpV (lk O)).at p)=true->Z.at p=(hpV (lk O)).at p/\bM aMD w' ρ' p=bM a' w' ρ' p:=by intro p hp;obtain⟨b,j,k,rfl,hk,_⟩:=bRN hp;exact⟨by simp_all [View.at,hpV],rfl⟩
 have W:∀b c,ρ' b=some c->w.heap.size<=c\/rP ρ w (lk H) c:=by intro b c E;cases hk:Z.hp b with|none=>rw[A.dom b hk]at E;cases E|some k=>obtain⟨c',I,hB,_⟩:=A.hp b k hk;rw[E]at I;cases I;exact hB.imp id (L c)
 refine⟨⟨A.os,A.tape,A.output,A.bsz,fun k hk hm=>A.old k hk (D k hm)⟩,A.f0,⟨A.fcell,A.fobj⟩,fun c K hm=>?_,⟨fun b k hk=>?_,fun b E=>A.dom b (by simp[*]),A.inj,fun p e wd rows hp=>?_,fun p q hp hq g g' n n' c c' h1 h2 h3=>?_⟩,fun b c E=>?_,fun b c E=>(W b c E).elim (fun h=>.inr (.inl h)) (fun h=>.inr (.inr h)),fun c K=>?_,ac⟩;{constructor;{intro o;cases e:fz'.cell c o with|none=>(cases M:fz.cell c o with|none=>rfl|some u=>have:=A.f0.1 c o u M;simp_all)|some u=>exact((A.f1 c K (D c hm)).1 o u e).symm};{cases e:fz'.obj c with|none=>(cases M:fz.obj c with|none=>rfl|some u=>have:=A.f0.2 c u M;simp_all)|some u=>exact((A.f1 c K (D c hm)).2 u e).symm}};{obtain⟨c,K,_,h1,h2⟩:=A.hp b k (by rw[J];exact hk);simp[*]};{obtain⟨e1,M⟩:=G p (by rw[hp];rfl);rw[M];rcases A.tips p e wd rows (by simp[*])with hh|⟨gg,cap,cur,x1,x2,x3,x4,x5,x6,x7,x8,x9⟩;{exact .inl hh};{exact .inr ⟨gg,cap,cur,x1,x3,x4,x5,x6,x7,x8,x9⟩}};{obtain⟨e1,M⟩:=G p hp;obtain⟨e3,e4⟩:=G q hq;exact A.tipinj p q (by simp[*]) (by simp[*]) g g' n n' c c' (by simp_all) (by simp_all) h3};{cases hk:lk H b with|none=>rw[S.dom b hk]at E;cases E|some k=>obtain⟨k',ad⟩:=U b k hk;obtain⟨c',I,_⟩:=A.hp b k' (by rw[J];exact ad);have:=A.keep b c c' E I;simp[*]};{rcases K with⟨b,E⟩|⟨p,g,n,cap,ho,Y,rfl⟩;{grind};{obtain⟨e1,M⟩:=G p ho;rw[M]at Y;cases hx:(hpV (lk O)).at p<;>rw[hx]at ho<;>simp[aG]at ho;rcases A.tips p _ _ _ (by rw[e1];exact hx)with⟨y1,_⟩|⟨g2,_,_,y1,y2,_⟩;{simp_all};{rw[Y]at y1;cases y1;exact y2.imp id (L _)}}}
theorem aCV {ts:List AV} {vs:Array Value} {n:Nat} (A:HoldsL fz ts ρ vs.toList) {hp:List (Nat×Blk)} (t:Nat): Holds fz (({tm:=kF 0 (ts.map dem),hp:=hp}:AS).view.tm t) ρ ((vs++Array.replicate n undef).getD t undef)/\aG (({tm:=kF 0 (ts.map dem),hp:=hp}:AS).view.tm t)=false:=by
 simp only[AS.view];have:=tR (ts.map Aw.dem) 0 t;rw[Nat.zero_add]at this;rw[this,List.getElem?_map];cases D:ts[t]? with
 |none=>simp[Holds,aG]
 |some x=>
  obtain⟨v,I,E⟩:=A.get _ _ _ t x D
  have o:vs[t]? =some v:=by simp_all
  have G:t<vs.size:=(Array.getElem?_eq_some_iff.1 o).1
  have:(vs++Array.replicate n undef).getD t undef=v:=by
   simp_all [Array.getD_eq_getD_getElem?,Array.getElem?_append_left]
  rw[this]
  exact⟨E.dem,cV x⟩
theorem SimE.toH {G:AS} {A:List (Nat×Blk)} {o:Ren} {r:AV} {v:Value} (D:SimE C G.view a w fz o) (hle:AS.le {tm:=[],hp:=A} G) (E:Aw.within (A.map (·.1)) r=true) (J:Holds fz r o v): ∃ρ' I,SimE C I a w fz ρ'/\(∀b,I.hp b=lk A b)/\Holds fz r ρ' v:=by have K:=D.forgetS hle;refine⟨_,_,K,fun b=>rfl,J.within (l:=A.map (·.1)) (fun b L=>?_) _ _ E⟩;simp_all
theorem ConM.of_code {f:FuncId} {fn:Func} {c:Code} {H O:List (Nat×Blk)} {ts:List AV} {r:AV} (hf:P.funcs[f]? =some fn) (hn:(fn.name== "runtime.NumGoroutine")=false) (S:fn.body=some c) (hl:ts.length<=fn.ntmps) (hN:fn.ntmps<=1000) (hH:∀b k,lk H b=some k->1000<=b/\b<2000) (E:∀b k,lk H b=some k-> ∃k',lk O b=some k') (hr:aG r=false) (h:∀C:Ctx,C.N=fn.ntmps->(∀b,lk H b=none->C.ρ0 b=none)->AWp P C c (fun e s=>(e=.normal\/e=.ret)/\bSY P fn.results.toList r O s) {tm:=kF 0 (ts.map dem),hp:=H}):ConM P f H ts r O:=by
 refine⟨⟨fn,hf,hn,by simp[*]⟩,hr,fun fz ρ w vs U W o Y D=>?_⟩;have ak:vs.size=ts.length:=by simpa using D.len
 refine calls_of_wp hf S ?_;have A:=yD (a:={tmps:=vs++Array.replicate (fn.ntmps-vs.size) undef,defers:=[]}) (V:=({tm:=kF 0 (ts.map dem),hp:=H}:AS).view) U W o Y hN hH rfl (by simp[*]) (fun t=>(aCV D t).1) (fun t=>(aCV (n:=0) D t).2) (fun _=>rfl);refine wp_mono (wpIn_wide.1 (h (Ctx.startM w fz ρ H fn.ntmps) rfl (fun b S=>o.dom b S) _ w ⟨fz,ρ,A⟩)) ?_;rintro e a' w' ⟨al,⟨fz',ae,G⟩,he,⟨l,I,Z⟩,aa,J⟩;obtain⟨v,K,L⟩:=uN G I;obtain⟨ρ',V',hs,M,ac⟩:=G.toH J aa (Z.holds L);have hR:=sZ o E hs M ac;rcases he with rfl|rfl;{exact⟨hs.df,v,K,v,fz',ρ',rfl,hR⟩};{exact⟨hs.df,v,K,v,fz',ρ',rfl,hR⟩}
mutual
def AV.ren (x y:Nat):AV->AV
 | .ptr b off=>.ptr (if b=x then y else b) off
 | .vec b w off n cap=>.vec (if b=x then y else b) w off n cap
 | .mapr b=>.mapr (if b=x then y else b)
 | .agg l=>.agg (aEJ x y l)
 | .tup l=>.tup (aEJ x y l)
 | .clo fn l=>.clo fn (aEJ x y l)
 | .ifc t z=>.ifc t (AV.ren x y z)
 |z=>z
def aEJ (x y:Nat):List AV->List AV
 |[]=>[]
 |z::l=>AV.ren x y z::aEJ x y l
end
mutual
theorem AV.ren_noref (x y:Nat):∀ (z:AV),noref z=true->z.ren x y=z
 | .unk,_| .val _,_| .rd ..,_| .fx ..,_| .own ..,_| .elt ..,_| .rmap ..,_| .kset ..,_=>by rfl
 | .ptr ..,h| .vec ..,h| .mapr _,h=>by simp_all
 | .agg l,h| .tup l,h| .clo _ l,h=>by simp only[noref]at h;simp only[AV.ren,tI x y l h]
 | .ifc _ z,h=>by simp_all [noref,AV.ren,AV.ren_noref]
theorem tI (x y:Nat):∀ (l:List AV),aW l=true->aEJ x y l=l
 |[],_=>by rfl
 |z::l,h=>by simp only[aW,Bool.and_eq_true]at h;simp only[aEJ,AV.ren_noref x y z h.1,tI x y l h.2]
end
mutual
theorem Holds.ren {x y:Nat} {ρ ρ':Ren} (o:∀b c,ρ b=some c->ρ' (if b=x then y else b)=some c):∀ (z:AV) (v:Value),Holds fz z ρ v->Holds fz (z.ren x y) ρ' v
 | .unk,_,_=>by assumption
 | .val u,_,h=>by assumption
 | .agg l,v,h| .tup l,v,h| .clo fn l,v,h=>by (simp only[AV.ren,Holds]at h|-;obtain⟨cs,e,h⟩:=h;exact⟨cs,e,HoldsL.ren o l _ h⟩)| .ifc t z,v,h=>by simp only[AV.ren,Holds]at h|-;obtain⟨u,e,h⟩:=h;exact⟨u,e,Holds.ren o z _ h⟩
 | .rd ..,_,h| .fx ..,_,h| .own ..,_,h| .elt ..,_,h| .rmap ..,_,h| .kset ..,_,h=>by assumption
 | .ptr b off,v,h=>by grind [AV.ren,Holds]
 | .vec b w off n cap,v,h=>by grind [AV.ren,Holds]
 | .mapr b,v,h=>by grind [AV.ren,Holds]
theorem HoldsL.ren {x y:Nat} {ρ ρ':Ren} (o:∀b c,ρ b=some c->ρ' (if b=x then y else b)=some c):∀ (l:List AV) (vs:List Value),HoldsL fz l ρ vs->HoldsL fz (aEJ x y l) ρ' vs
 |[],_,h=>by assumption
 |z::l,vs,h=>by simp only[aEJ,HoldsL]at h|-;obtain⟨v,r,e,h1,A⟩:=h;exact⟨v,r,e,Holds.ren o z v h1,HoldsL.ren o l r A⟩
end
theorem bWJ (x y:Nat) (z:AV):aG (z.ren x y)=aG z:=by cases z<;>rfl
theorem aXZ {x y:Nat} {z:AV} (h:aG (z.ren x y)=true):z.ren x y=z:=by rw[bWJ]at h;cases z with|own e w rows=>rfl|_=>cases h
def Blk.ren (x y:Nat):Blk->Blk
 | .cells e cs=>.cells e (aEJ x y cs)
 | .map ks vs=>.map ks (aEJ x y vs)
 | .mapd ks vs=>.mapd ks (aEJ x y vs)
 | .hid l o=>.hid l o
theorem aYA (x y:Nat):∀ (l:List AV) (j:Nat),(aEJ x y l).getD j .unk=(l.getD j .unk).ren x y
 |[],j=>by rfl
 |z::l,0=>by rfl
 |z::l,j+1=>by simpa[aEJ]using aYA x y l j
theorem Blk.ren_at (x y:Nat) (k:Blk) (j:Nat):(k.ren x y).at j=(k.at j).ren x y:=by cases k<;>first|exact aYA x y _ j|rfl
theorem BlkAt.ren {x y:Nat} {ρ ρ':Ren} (A:∀b c,ρ b=some c->ρ' (if b=x then y else b)=some c) {c:Nat} {k:Blk} (h:BlkAt fz ρ w c k):BlkAt fz ρ' w c (k.ren x y):=by cases k with|cells e cs=>obtain⟨cur,h1,D,E⟩:=h;exact⟨cur,h1,D.ren A,E⟩|map ks vs=>obtain⟨es,clock,h1,D,E,G⟩:=h;exact⟨es,clock,h1,D,E.ren A,G⟩|mapd ks vs=>obtain⟨es,clock,h1,D,E,G⟩:=h;exact⟨es,clock,h1,D,E.ren A,G⟩|hid l o=>exact h
theorem SimE.ren (h:SimE C V a w fz ρ) {x y:Nat} (ac:x≠y) (hy:V.hp y=none) (h0:C.ρ0 y=none) (hG:GL.bren y=none) {I:View} (Z:∀t,I.tm t=(V.tm t).ren x y) (hb:∀b,I.hp b=if b=y then(V.hp x).map (Blk.ren x y)else if b=x then none else(V.hp b).map (Blk.ren x y)):Sim C I a w:=by
 let ρ':Ren:=fun b=>if b=y then ρ x else if b=x then none else ρ b
 have ae:ρ y=none:=h.dom y hy;have O:∀b c,ρ b=some c->ρ' (if b=x then y else b)=some c:=by grind
 have o:∀b,(∃D,ρ' b=ρ D/\I.hp b=(V.hp D).map (Blk.ren x y)/\(b=if D=x then y else D)/\D≠y)\/(ρ' b=none/\I.hp b=none):=by grind
 have S:∀b W c,ρ' b=some c->ρ' W=some c->b=W:=by intro b W c h1 A;rcases o b with⟨D,e1,_,E,_⟩|⟨e1,_⟩;{rcases o W with⟨b1,f1,_,f2,_⟩|⟨f1,_⟩;{have:=h.inj D b1 c (by rw[<-e1];exact h1) (by rw[<-f1];exact A);rw[E,f2,this]};{rw[f1]at A;cases A}};simp_all
 have L:∀p,aG (I.at p)=true-> ∃M,V.at M=I.at p/\bM a w ρ' p=bM a w ρ M/\p=(match M with| .t i=>.t i| .c b j=>.c (if b=x then y else b) j):=by intro p K;cases p with|t i=>have e:I.at (.t i)=(V.tm i).ren x y:=Z i;rw[e]at K|-;exact⟨.t i,(aXZ K).symm,rfl,rfl⟩|c b j=>rcases o b with⟨D,e1,E,e3,e4⟩|⟨_,E⟩;{cases hk:V.hp D with|none=>simp only[View.at,E,hk]at K;cases K|some k=>have e:I.at (.c b j)=(k.at j).ren x y:=(by simp only[View.at,E,hk,Option.map_some,Option.getD_some,Blk.ren_at]);rw[e]at K|-;refine⟨.c D j,?_,?_,?_⟩;{rw[aXZ K];simp only[View.at,hk,Option.map_some,Option.getD_some]};{simp only[bM,e1]};{rw[e3]}};{simp only[View.at,E]at K;cases K}
 refine⟨fz,ρ',{h with
  tm:=fun t=>by rw[Z];exact(h.tm t).ren O,hp:=fun b k hk=>?_,dom:=fun b J=>?_,inj:=S,tips:=fun p e wd rows hp=>?_,tipinj:=fun p q hp hq g g' n n' c U h1 A Y=>?_,keep:=fun b c U h1 A=>?_,br:=fun b c U h1 A=>?_}⟩
 {rcases o b with⟨D,e1,E,_⟩|⟨_,E⟩;{rw[E]at hk;cases G:V.hp D with|none=>rw[G]at hk;cases hk|some k0=>rw[G]at hk;cases hk;obtain⟨c,hc,hB,A,Y⟩:=h.hp D k0 G;exact⟨c,by rw[e1];exact hc,hB,A.ren O,Y⟩};simp_all};{rcases o b with⟨D,e1,E,_⟩|⟨e1,_⟩;{rw[e1];rw[E]at J;refine h.dom D ?_;cases G:V.hp D with|none=>rfl|some k=>rw[G]at J;cases J};{exact e1}};{obtain⟨M,e1,E,_⟩:=L p (by rw[hp];rfl);rw[E];rcases h.tips M e wd rows (by simp_all)with hh|⟨gg,cap,cur,x1,x2,x3,x4,x5,x6,x7,x8,x9⟩;{exact .inl hh};{refine .inr ⟨gg,cap,cur,x1,x2,x3,x4,x5,x6,x7,x8,fun b J=>?_⟩;grind}};{obtain⟨M,e1,E,e3⟩:=L p hp;obtain⟨q0,f1,f2,f3⟩:=L q hq;have:=h.tipinj M q0 (by rw[e1];exact hp) (by rw[f1];exact hq) g g' n n' c U (by rw[<-E];exact h1) (by rw[<-f2];exact A) Y;simp[*]};{simp only[ρ']at A;split at A;{simp_all};{split at A;{cases A};{exact h.keep b c U h1 A}}};{simp only[ρ']at A;split at A;{simp_all};{split at A;{cases A};{exact h.br b c U h1 A}}}
def aGZ (x y:Nat):List (Nat×Blk)->List (Nat×Blk)
 |[]=>[]
 |(b,k)::l=>(if b=x then y else b,k.ren x y)::aGZ x y l
def aMW (x y:Nat):List (Nat×AV)->List (Nat×AV)
 |[]=>[]
 |(t,z)::l=>(t,z.ren x y)::aMW x y l
theorem bIA (x y:Nat):∀ (l:List (Nat×AV)) (t:Nat),lk (aMW x y l) t=(lk l t).map (AV.ren x y)|[],_=>rfl|(u,z)::l,t=>by simp only[aMW,lk];split;{rfl};{exact bIA x y l t}
theorem bIB {x y:Nat} (A:x≠y):∀ (l:List (Nat×Blk)),lk l y=none-> ∀b,lk (aGZ x y l) b=if b=y then(lk l x).map (Blk.ren x y)else if b=x then none else(lk l b).map (Blk.ren x y)
 |[],_,b=>by simp[aGZ,lk]
 |(u,k)::l,o,b=>by simp only[lk]at o;split at o;{cases o};{rename_i D;have E:=bIB A l o b;simp only[aGZ,lk];grind}
theorem AWp.ren {c:Code} {Q:Exit->AS->Prop} {s:AS} (x y:Nat) (o:x≠y) (D:lk s.hp y=none) (E:C.ρ0 y=none) (G:GL.bren y=none) (s':AS) (A:s'={tm:=aMW x y s.tm,hp:=aGZ x y s.hp}) (h:AWp P C c Q s'):AWp P C c Q s:=by intro a w ⟨fz,ρ,I⟩;refine h a w (I.ren o D E G (fun t=>?_) (fun b=>?_));{subst A;simp only[AS.view,bIA];cases lk s.tm t<;>simp[AV.ren]};simp_all [bIB]
attribute [simp] aMW aGZ AV.ren aEJ Blk.ren
theorem SimE.ρ0_none (h:SimE C V a w fz ρ) (o:∀c,C.Mu c=false) (b:Nat):C.ρ0 b=none:=by cases e:C.ρ0 b with|none=>rfl|some c=>have:=h.muρ b c e;simp_all
theorem AWp.renP [NB] {c:Code} {Q:Exit->AS->Prop} {s:AS} (E:∀c,C.Mu c=false) (x y:Nat) (A:x≠y) (G:lk s.hp y=none) (s':AS) (D:s'={tm:=aMW x y s.tm,hp:=aGZ x y s.hp}) (h:AWp P C c Q s'):AWp P C c Q s:=by intro a w I;obtain⟨fz,ρ,o⟩:=I;refine AWp.ren x y A G (o.ρ0_none E y) ?_ s' D h a w ⟨fz,ρ,o⟩;rw[NB.nb];rfl
theorem AWp.renM [NB] {c:Code} {Q:Exit->AS->Prop} {s:AS} {H:List (Nat×Blk)} (o:∀b,lk H b=none->C.ρ0 b=none) (x y:Nat) (A:x≠y) (hH:lk H y=none) (E:lk s.hp y=none) (s':AS) (D:s'={tm:=aMW x y s.tm,hp:=aGZ x y s.hp}) (h:AWp P C c Q s'):AWp P C c Q s:=
 AWp.ren x y A E (o y hH) (by rw[NB.nb];rfl) s' D h
end Go.Aw
namespace Go.Aw
variable [GL]
variable {P:Program} {C:Ctx}
def jumpQ (l:Nat) (J:AS->Prop) (Q:Exit->AS->Prop):Exit->AS->Prop
 | .goto o,s=>o=l/\J s
 |e,s=>Q e s
theorem eW {α:Type}:∀ {H:List (Nat×α)},(H.all fun p=>decide (1000<=p.1)&&decide (p.1<2000))=true-> ∀b k,lk H b=some k->1000<=b/\b<2000
 |[],_,b,k,h=>by simp_all
 |(j,x)::H,o,b,k,h=>by simp only[List.all_cons,Bool.and_eq_true,decide_eq_true_eq]at o;simp only[lk]at h;split at h;{omega};{exact eW o.2 b k h}
theorem eP {α:Type} {H o:List (Nat×α)} (hm:H.map (·.1)=o.map (·.1)):∀b k,lk H b=some k-> ∃A,lk o b=some A:=by intro b k h;exact jY (by grind [nT])
theorem aNL {α:Type}:∀ {H:List (Nat×α)} {b:Nat} {k:α},lk H b=some k->(b,k)∈H|(j,x)::H,b,k,h=>by simp only[lk]at h;split at h;{simp_all};{exact List.mem_cons_of_mem _ (aNL h)}
theorem iR {P:Program} {fn:FuncId} {g:Nat->Option Blk} {us:List Nat} {vs ts:List AV} {r:AV} {bs H:List (Nat×Blk)} (G:ConM P fn H ts r bs) (A:LtL vs ts) (hm:H.map (·.1)=bs.map (·.1)) (I:((H.map (·.1)).all us.contains)=true) (J:∀p∈H,g p.1=some p.2) (D:∀p∈H,p.2.within (H.map (·.1))) (E:bD (H.map (·.1)) ts=true) (hfn:fn<YB:=by decide):∃H ts,aVG P fn g us vs r bs H ts:=by refine⟨H,ts,fun b k o=>?_,fun b k o=>J _ (aNL o),fun b k o L=>?_,eP hm,fun b k o=>D _ (aNL o),E,A,.inl ⟨hfn,G⟩⟩;{have:=nT o;grind};{have:=nT o;rw[<-hm]at this;obtain⟨M,K⟩:=jY this;simp_all}
def aUB:List Nat->Code->Code
 |0::p,.seq a _=>aUB p a
 |1::p,.seq _ b=>aUB p b
 |0::p,.scope a=>aUB p a
 |0::p,.loop a=>aUB p a
 |0::p,.block _ a=>aUB p a
 |_,c=>c
end Go.Aw
end
section
namespace Go.Aw
variable [GL]
variable {P:Program} {C:Ctx} {ops:Array Oper}
theorem cFU {l o m A:List Nat} (D:∀x∈l,x∈o) (hm:∀x∈m,x∈A) (h:bJG o A=true):bJG l m=true:=by grind [bJG,List.all_eq_true,Bool.not_eq_true',decide_eq_false_iff_not]
abbrev Gd:=Nat×Bool
def anc (G:List (Nat×Gd)):Nat->Gd->List Gd
 |0,_=>[]
 |n+1,p=>p::(match lk G p.1 with|some q=>anc G n q|none=>[])
def okO (G:List (Nat×Gd)) (l:List Gd):Operand->Bool
 | .tmp t=>match lk G t with|none=>true|some g=>l.contains g
 |_=>true
def bVL (G:List (Nat×Gd)) (l:List Gd):AOp->Bool
 | .pick (.tmp t) x y=>okO G l (.tmp t)&&(okO G ((t,true)::l) x&&okO G ((t,false)::l) y)
 |o=>o.opds.all (okO G l)
def onV (V:View) (g:Gd):Prop:=V.tm g.1=.val (.bool g.2)
structure Rel (G:List (Nat×Gd)) (VI VR:View):Prop where
 hp:∀b,VR.hp b=VI.hp b
 free:∀t,lk G t=none->VR.tm t=VI.tm t
 good:∀t g,lk G t=some g->onV VR g->VR.tm t=VI.tm t
 off:∀t g,lk G t=some g-> ¬onV VR g->VR.tm t=.val (.tuple #[])
variable {G:List (Nat×Gd)} {VI VR:View}
theorem Rel.anc (h:Rel G VI VR):∀ (n:Nat) (p:Gd),onV VR p-> ∀q∈anc G n p,onV VR q
 |0,_,_,_,o=>by grind [Aw.anc]
 |n+1,p,hp,q,o=>by simp only[Aw.anc,List.mem_cons]at o;rcases o with rfl|o;{exact hp};{split at o;{rename_i D A;refine Rel.anc h n D ?_ q o;refine Classical.byContradiction fun E=>?_;have:=h.off _ _ A E;unfold onV at hp;rw[this]at hp;simp at hp};{cases o}}
theorem Rel.ev (h:Rel G VI VR) {l:List Gd} (E:∀q∈l,onV VR q) (o:Operand) (D:okO G l o=true):VR.ev o=VI.ev o:=by cases o with|tmp t=>simp only[okO]at D;simp only[View.ev];split at D;{rename_i A;exact h.free t A};{rename_i g A;exact h.good t g A (E g (by simp_all))}|_=>rfl
theorem Rel.ev_or (h:Rel G VI VR) (o:Operand):VR.ev o=VI.ev o\/VR.ev o=.val (.tuple #[]):=by cases o with|tmp t=>(simp only[View.ev];cases A:lk G t with|none=>exact .inl (h.free t A)|some g=>by_cases D:onV VR g;{exact .inl (h.good t g A D)};{exact .inr (h.off t g A D)})|_=>simp
theorem Rel.evs (h:Rel G VI VR) {l:List Gd} (D:∀q∈l,onV VR q):∀ (os:List Operand),os.all (okO G l)=true->os.map VR.ev=os.map VI.ev|[],_=>rfl|o::os,A=>by simp only[List.all_cons,Bool.and_eq_true]at A;simp only[List.map_cons,h.ev D o A.1,Rel.evs h D os A.2]
theorem Rel.filt (h:Rel G VI VR) (l:List Nat):VR.filt l=VI.filt l:=by funext b;simp only[View.filt,h.hp]
theorem bMS (l:List Gd) (o:AOp) (h:bVL G l o=true):o.opds.all (okO G l)=true\/ ∃t x y,o=.pick (.tmp t) x y/\okO G l (.tmp t)=true/\okO G ((t,true)::l) x=true/\okO G ((t,false)::l) y=true:=by unfold bVL at h;grind
theorem Rel.eff (h:Rel G VI VR) {l:List Gd} (D:∀q∈l,onV VR q) {c:Res} {d:Option Nat} {E:AOp} (I:bVL G l E=true) {e:Eff} (he:eX P c d E VI=some e):eX P c d E VR=some e:=by
 rcases bMS l E I with I|⟨t,x,y,rfl,h1,K,L⟩;{simp only[eX,h.evs D _ I,h.filt]at he|-;exact he}
 ·simp only[eX,AOp.opds,List.map_cons,List.map_nil,act,bKF]at he|-;have J:VR.ev (.tmp t)=VI.ev (.tmp t):=h.ev D _ h1;rw[J];split at he
  ·rename_i b S U A;simp only[List.cons.injEq,and_true]at A;obtain⟨e1,M,O⟩:=A;rw[e1];simp only;rw[<-he];cases b with
    |true=>
     have:=h.ev (l:=(t,true)::l) (by
      intro q o;rcases List.mem_cons.1 o with rfl|o;{show VR.ev (.tmp t)=_;rw[J,e1]}
      ·exact D q o) x K
     simp only[if_true,this,M]
    |false=>
     have:=h.ev (l:=(t,false)::l) (by
      intro q o;rcases List.mem_cons.1 o with rfl|o;{show VR.ev (.tmp t)=_;rw[J,e1]}
      ·exact D q o) y L
     simp only[Bool.false_eq_true,if_false,this,O]
  {cases he}
theorem Rel.touch (h:Rel G VI VR) (us:List Nat) (d:Option Nat) (D:AOp):∀b∈oW us d D (D.opds.map VR.ev),b∈oW us d D (D.opds.map VI.ev):=by
 have key:∀ (os:List Operand) b,b∈(os.map VR.ev).flatMap bWN->b∈(os.map VI.ev).flatMap bWN:=by intro os;induction os with|nil=>simp|cons o os E=>intro b A;simp only[List.map_cons,List.flatMap_cons,List.mem_append]at A|-;rcases A with A|A;{rcases h.ev_or o with e|e;{rw[e]at A;exact .inl A};{rw[e]at A;cases A}};simp[*]
 intro b A;unfold oW at A|-;split at A<;>first|exact A|exact key _ b A|(split at A<;>first|(rename_i e;rw[if_pos e];exact key _ b A)|cases A)
theorem Rel.lc (h:Rel G VI VR) (o:AOp):(aSN o (o.opds.map VR.ev)=aSN o (o.opds.map VI.ev)\/aSN o (o.opds.map VR.ev)=[]):=by rcases aHY [] none o (o.opds.map VR.ev)with⟨n,D,x,b,off,e1,A⟩|⟨e1,_⟩;{subst e1;rcases h.ev_or x with e|e;{left;simp only[AOp.opds,List.map_cons,List.map_nil,e]};{simp only[AOp.opds,List.map_cons,List.map_nil,e,List.cons.injEq,and_true]at A;cases A}};{exact .inr e1}
theorem Rel.touchH (h:Rel G VI VR) (us:List Nat) (d:Option Nat) (o:AOp):∀b∈tbH us d o (o.opds.map VR.ev),b∈tbH us d o (o.opds.map VI.ev):=by intro b A;rcases aHY us d o (o.opds.map VI.ev)with⟨n,I,x,J,off,e1,D⟩|⟨_,D⟩;{subst e1;rcases h.ev_or x with e|e;{simp only[AOp.opds,List.map_cons,List.map_nil,e]at A|-;exact A};simp_all};{rw[D];refine h.touch us d o b ?_;rcases aHY us d o (o.opds.map VR.ev)with⟨n,I,x,J,off,e1,E⟩|⟨_,E⟩;{subst e1;rw[E]at A;simp[tbH]at A};grind}
def leI (x y:oD):Prop:=x.rt=y.rt/\x.wt=y.wt/\(∀b∈x.tb,b∈y.tb)/\(∀b∈x.wb,b∈y.wb)/\(∀b∈x.lc,b∈y.lc)/\(∀b∈x.wh,b∈y.wh)/\ ∀b∈x.dc,b∈y.dc
inductive bZD:List oD->List oD->Prop
 |nil:bZD [] []
 |cons {x y:oD} {l m:List oD}:leI x y->bZD l m->bZD (x::l) (y::m)
theorem cBF {x o y A:oD} (h1:∀b∈x.wh,b∈o.wh) (D:∀b∈x.dc,b∈o.dc) (E:∀b∈y.lc,b∈A.lc) (h:sft o A=true):sft x y=true:=by unfold sft at h|-;grind
theorem bNJ {x o y A:oD} (D:leI x o) (E:leI y A) (h:indep o A=true):indep x y=true:=by obtain⟨I,a2,a3,a4,a5,J,K⟩:=D;obtain⟨L,M,O,S,U,W,Y⟩:=E;unfold indep at h|-;simp only[Bool.and_eq_true]at h|-;grind [cFU,cBF]
theorem aUE {reach:List (List Nat)} {i:Nat} {x o:oD} (A:leI x o):∀ {l m:List oD},bZD l m-> ∀j,qR reach i o m j=true->qR reach i x l j=true|_,_,.nil,_,_=>rfl|_,_,.cons D E,j,h=>by simp only[qR,Bool.and_eq_true,Bool.or_eq_true]at h|-;exact⟨h.1.imp id (bNJ A D),aUE A E _ h.2⟩
theorem aTD {reach:List (List Nat)}:∀ {l m:List oD},bZD l m-> ∀i,jH reach m i=true->jH reach l i=true|_,_,.nil,_,_=>rfl|_,_,.cons A o,i,h=>by simp only[jH,Bool.and_eq_true]at h|-;exact⟨aUE A o _ h.1,aTD o _ h.2⟩
def yV (G:List (Nat×Gd)):Option Nat->Bool
 |some d=>G.all fun p=>!decide (p.2.1=d)
 |none=>true
def bED (G:List (Nat×Gd)) (d:Option Nat):List (Nat×Gd):=match d with|some d=>G.filter fun p=>!decide (p.1=d)|none=>G
def bMH (G:List (Nat×Gd)) (d:Option Nat) (g:Gd):List (Nat×Gd):=match d with|some d=>(d,g)::bED G (some d)|none=>G
def bQZ (G:List (Nat×Gd)) (e:Eff):Bool:=match e.dem with|some (.t t)=>(lk G t).isNone |_=>true
def aHC (e:Eff):Bool:=e.dem.isNone&&(e.blk.isNone&&e.bs.isEmpty)
def bAR (V:View):List Gd->Prop->Prop
 |[],X=>X
 |g::l,X=>match V.tm g.1 with
  | .val (.bool b)=>b=g.2->bAR V l X
  |_=>bAR V l X
def clr (G:List (Nat×Gd)) (s:AS):AS:={tm:=s.tm.filter fun p=>(lk G p.1).isNone,hp:=s.hp}
theorem aCK {α:Type} (p:Nat->Bool) (t:Nat):∀l:List (Nat×α),lk (l.filter fun x=>p x.1) t=if p t=true then lk l t else none
 |[]=>by simp
 |(j,x)::l=>by rw[List.filter_cons];simp only[lk];by_cases o:p j=true;{rw[if_pos o];simp only[lk,aCK p t l];grind};{rw[if_neg o,aCK p t l];grind}
theorem bDC (d t:Nat):lk (bED G (some d)) t=if t=d then none else lk G t:=by unfold bED;rw[aCK (fun j=>!decide (j=d))];simp
theorem cPM (s:AS) (t:Nat):(clr G s).view.tm t=if(lk G t).isNone=true then s.view.tm t else .unk:=by simp only[clr,AS.view,aCK (fun j=>(lk G j).isNone)];grind
theorem aLR {V VR:View} {X:Prop}:∀ {l:List Gd},(∀g∈l,∀b,V.tm g.1=.val (.bool b)->b=g.2)->bAR V l X->X|[],_,h=>h|g::l,o,h=>by unfold bAR at h;split at h;{rename_i b D;exact aLR (VR:=VR) (fun q A=>o q (List.mem_cons_of_mem _ A)) (h (o g (by simp) b D))};{exact aLR (VR:=VR) (fun q A=>o q (List.mem_cons_of_mem _ A)) h}
def kW (P:Program):List ROp->List Res->AS->List (Nat×Gd)->List oD->(AS->List oD->Prop)->Prop
 |[],_,s,G,I,K=>K (clr G s) I.reverse
 |r::L,c::R,s,G,I,K=>match r.guard with
  |none=>(bVL G [] r.op&&yV G r.dst)=true/\match eX P c r.dst r.op s.view with
   |some e=>bQZ G e=true/\e.ob/\kW P L R (s.app r.dst e) (bED G r.dst) (dF c r e s.view::I) K
   |none=>False
  |some g=>(bVL G (anc G 8 g) r.op&&yV G r.dst&& !decide (r.dst=some g.1))=true/\match s.view.tm g.1 with
   | .val (.bool _)=>match eX P c r.dst r.op s.view with
    |some e=>aHC e=true/\bAR s.view (anc G 8 g) e.ob/\kW P L R (s.app r.dst e) (bMH G r.dst g) (dF c r e s.view::I) K
    |none=>False
   |_=>False
 |_::_,[],_,_,_,_=>False
theorem bOS {V:View} {d:Option Nat} {e:Eff} {g:Gd} (o:d≠some g.1):onV (V.app d e) g↔onV V g:=by unfold onV;rw[nZ];unfold bEQ;rw[if_neg o];split;{constructor;{intro h;cases A:V.tm g.1<;>rw[A]at h<;>first|exact h|(simp[dem]at h)};{intro h;rw[h];rfl}};{exact Iff.rfl}
theorem yU {d:Option Nat} (h:yV G d=true) {t:Nat} {g:Gd} (o:lk G t=some g):d≠some g.1:=by
 rintro rfl;simp only[yV,List.all_eq_true]at h;have:(t,g)∈G:=by clear h;induction G with|nil=>cases o|cons p G A=>obtain⟨j,x⟩:=p;simp only[lk]at o;split at o;{rename_i e;subst e;cases o;simp};{exact List.mem_cons_of_mem _ (A o)}
 grind
theorem Rel.app (h:Rel G VI VR) {d:Option Nat} {e:Eff} (J:yV G d=true) (L:bQZ G e=true):Rel (bED G d) (VI.app d e) (VR.app d e):=by
 have A:∀t,d≠some t->lk (bED G d) t=lk G t:=by intro t I;cases d with|none=>rfl|some d=>rw[bDC,if_neg (fun e=>I (by rw[e]))]
 have K:∀t,d=some t->lk (bED G d) t=none:=by simp_all [bDC,if_pos]
 have D:∀t g,lk G t=some g->e.dem≠some (.t t):=by grind [bQZ]
 refine⟨fun b=>by rw[rY,rY,h.hp],fun t I=>?_,fun t g o E=>?_,fun t g o E=>?_⟩;{rw[nZ,nZ];by_cases e1:d=some t;{simp_all [bEQ,if_pos]};{rw[A t e1]at I;rw[h.free t I]}};{have e1:d≠some t:=fun e1=>(by simp_all);rw[A t e1]at o;rw[bOS (yU J o)]at E;rw[nZ,nZ,h.good t g o E]};{have e1:d≠some t:=fun e1=>(by simp_all);rw[A t e1]at o;rw[bOS (yU J o)]at E;rw[nZ,bEQ,if_neg e1,if_neg (D t g o),h.off t g o E]}
theorem aKO {e:Eff} (h:aHC e=true):e.dem=none/\e.blk=none/\e.bs=[]:=by simp_all [aHC,Bool.and_eq_true,Option.isNone_iff_eq_none,List.isEmpty_iff]
theorem bQN {V:View} {d:Option Nat} {e:Eff} (h:aHC e=true) (b:Nat):(V.app d e).hp b=V.hp b:=by
 obtain⟨h1,o,A⟩:=aKO h;have:(V.app d e).hp=V.hp:=by unfold View.app;rw[h1,o,A];cases d<;>rfl
 grind
theorem aHB {V:View} {d:Option Nat} {e:Eff} (h:aHC e=true) (t:Nat):(V.app d e).tm t=if d=some t then e.out else V.tm t:=by simp_all [aKO,nZ,bEQ]
theorem bDA {d:Option Nat} {g:Gd} (t:Nat):lk (bMH G d g) t=if d=some t then some g else lk G t:=by cases d with|none=>rfl|some d=>simp only[bMH,lk,Option.some.injEq];by_cases e:d=t;{simp[e]};{rw[if_neg e,if_neg e,bDC,if_neg (fun h=>e h.symm)]}
theorem Rel.guard (h:Rel G VI VR) {d:Option Nat} {g:Gd} {e D:Eff} (K:yV G d=true) (L:d≠some g.1) (hp:aHC e=true) (A:aHC D=true) (h1:onV VR g->D=e) (M:¬onV VR g->D.out=.val (.tuple #[])):Rel (bMH G d g) (VI.app d e) (VR.app d D):=by have E:∀q:Gd,d≠some q.1->(onV (VR.app d D) q↔onV VR q):=fun q o=>bOS o;refine⟨fun b=>by rw[bQN hp,bQN A,h.hp],fun t J=>?_,fun t q o I=>?_,fun t q o I=>?_⟩;{rw[bDA]at J;split at J;{cases J};{rename_i e1;rw[aHB hp,aHB A,if_neg e1,if_neg e1,h.free t J]}};{rw[bDA]at o;rw[aHB hp,aHB A];split at o;{grind};{rename_i e1;rw[E _ (yU K o)]at I;rw[if_neg e1,if_neg e1,h.good t q o I]}};{rw[bDA]at o;rw[aHB A];split at o;{grind};{rename_i e1;rw[E _ (yU K o)]at I;rw[if_neg e1,h.off t q o I]}}
theorem cNX:aHC Skipped=true:=rfl
theorem jT:∀ (L:List ROp) (R:List Res) (s t:AS) (G:List (Nat×Gd)) (I:List oD) (K:AS->List oD->Prop),kW P L R s G I K->Rel G s.view t.view-> ∃U ob,aAH P L R t=some (U,ob)/\ob/\ ∃s' W J,Rel W s'.view U.view/\K (clr W s') (I.reverse++J)/\bZD (mT P L R t) J|[],R,s,t,G,I,K,h,A=>by (simp only[kW]at h;exact⟨t,True,rfl,trivial,s,G,[],A,by simp[*],by cases R<;>exact .nil⟩)|r::L,[],s,t,G,I,K,h,A=>h.elim|r::L,c::R,s,t,G,I,K,h,A=>by simp only[kW]at h;split at h;{rename_i hg;obtain⟨hk,h⟩:=h;simp only[Bool.and_eq_true]at hk;split at h;{rename_i e he;obtain⟨hd,Y,h⟩:=h;have D:=A.eff (l:=[]) (by simp) hk.1 he;have E:Rel (bED G r.dst) (s.app r.dst e).view (t.app r.dst e).view:=(by rw[mX,mX];exact A.app hk.2 hd);obtain⟨U,ob,h1,Z,s',W,J,O,h4,h5⟩:=jT L R _ _ _ _ K h E;refine⟨U,e.ob/\ob,?_,⟨Y,Z⟩,s',W,dF c r e s.view::J,O,by simpa using h4,?_⟩;{simp only[aAH,qM,hg,D,h1]};{simp only[mT,qM,hg,D];exact .cons ⟨rfl,rfl,A.touchH _ _ _,fun b o=>o,fun b o=>(A.lc r.op).elim (fun e=>by simpa only[dF,<-e]using o) (fun e=>by simp only[dF,e]at o;cases o),fun b o=>o,fun b o=>o⟩ h5}};{exact h.elim}};{rename_i g hg;obtain⟨d,w⟩:=g;obtain⟨hk,h⟩:=h;simp only[Bool.and_eq_true,Bool.not_eq_true',decide_eq_false_iff_not]at hk;obtain⟨⟨ah,ae⟩,af⟩:=hk;split at h;{rename_i b o;split at h;{rename_i e he;obtain⟨hp,Y,h⟩:=h;have aa:(onV t.view (d,w)/\qM P c r t.view=some e/\e.ob)\/(¬onV t.view (d,w)/\qM P c r t.view=some Skipped):=(by by_cases M:onV t.view (d,w);{refine .inl ⟨M,?_,?_⟩;{have ai:t.view.tm d=.val (.bool w):=M;simp only[qM,hg,ai,if_true];exact A.eff (A.anc 8 _ M) ah he};{refine aLR (VR:=t.view) (fun q hq b' S=>?_) Y;have h1:=A.anc 8 _ M q hq;have Z:t.view.tm q.1=.val (.bool q.2):=h1;have O:=A.ev_or (.tmp q.1);simp only[View.ev,Z,S]at O;simp only[AV.val.injEq,Value.bool.injEq,reduceCtorEq,or_false]at O;exact O.symm}};{refine .inr ⟨M,?_⟩;rcases A.ev_or (.tmp d)with e1|e1;{simp only[View.ev]at e1;have S:t.view.tm d=.val (.bool b):=(by rw[e1];exact o);have aj:¬b=w:=fun e2=>M (by show t.view.tm d=_;rw[S,e2]);simp only[qM,hg,S,if_neg aj]};{simp only[View.ev]at e1;simp only[qM,hg,e1]}});rcases aa with⟨M,D,ag⟩|⟨M,D⟩;{have E:Rel (bMH G r.dst (d,w)) (s.app r.dst e).view (t.app r.dst e).view:=(by rw[mX,mX];exact A.guard ae af hp hp (fun _=>rfl) (fun h=>absurd M h));obtain⟨U,ob,h1,Z,s',W,J,O,h4,h5⟩:=jT L R _ _ _ _ K h E;refine⟨U,e.ob/\ob,?_,⟨ag,Z⟩,s',W,dF c r e s.view::J,O,by simpa using h4,?_⟩;{simp only[aAH,D,h1]};{simp only[mT,D];exact .cons ⟨rfl,rfl,A.touchH _ _ _,fun b o=>o,fun b o=>(A.lc r.op).elim (fun e=>by simpa only[dF,<-e]using o) (fun e=>by simp only[dF,e]at o;cases o),fun b o=>o,fun b o=>o⟩ h5}};{have E:Rel (bMH G r.dst (d,w)) (s.app r.dst e).view (t.app r.dst Skipped).view:=(by rw[mX,mX];exact A.guard ae af hp cNX (fun h=>absurd h M) (fun _=>rfl));obtain⟨U,ob,h1,Z,s',W,J,O,h4,h5⟩:=jT L R _ _ _ _ K h E;refine⟨U,Skipped.ob/\ob,?_,⟨trivial,Z⟩,s',W,dF c r e s.view::J,O,by simpa using h4,?_⟩;{simp only[aAH,D,h1]};{simp only[mT,D];refine .cons ⟨rfl,?_,A.touchH _ _ _,fun b o=>(by cases o),fun b o=>(A.lc r.op).elim (fun e=>by simpa only[dF,<-e]using o) (fun e=>by simp only[dF,e]at o;cases o),fun b o=>(by cases o),fun b o=>(by cases o)⟩ h5;simp only[dF,wtm,(aKO hp).1,Skipped]}}};{exact h.elim}};{exact h.elim}}
theorem Rel.refl (V:View):Rel [] V V:=⟨fun _=>rfl,fun _ _=>rfl,fun _ _ h=>(by cases h),fun _ _ h=>(by cases h)⟩
theorem Rel.sim {s t:AS} {a:Act} {w:World} (h:Rel G s.view t.view) (o:Sim C t.view a w):Sim C (clr G s).view a w:=by obtain⟨fz,ρ,o⟩:=o;refine⟨fz,ρ,o.weak (fun u=>?_) fun b=>?_⟩;{rw[cPM];cases A:lk G u with|none=>simp only[Option.isNone_none,if_true];exact .inl (h.free u A)|some g=>simp};{have D:(clr G s).view.hp b=t.view.hp b:=(h.hp b).symm;rw[D];cases hk:t.view.hp b with|none=>simp|some k=>exact .inr ⟨k,k,rfl,rfl,by cases k<;>simp[wkB]⟩}
def inN:List Nat->Nat->Bool
 |[],_=>false
 |x::l,k=>if x=k then true else inN l k
def aSR (l:List Nat):List (Nat×AV)->List (Nat×AV)
 |[]=>[]
 |(j,x)::r=>if inN l j=true then(j,x)::aSR l r else aSR l r
def iO (l:List Nat) (s:AS):AS:={tm:=aSR l s.tm,hp:=s.hp}
theorem aSL (l:List Nat) (t:Nat):∀r:List (Nat×AV),lk (aSR l r) t=if inN l t=true then lk r t else none
 |[]=>by simp[lk,aSR]
 |(j,x)::r=>by simp only[aSR,lk];by_cases o:inN l j=true;{rw[if_pos o];simp only[lk,aSL l t r];grind};{rw[if_neg o,aSL l t r];grind}
theorem Sim.keep {s:AS} {a:Act} {w:World} (l:List Nat) (o:Sim C s.view a w):Sim C (iO l s).view a w:=by obtain⟨fz,ρ,o⟩:=o;refine⟨fz,ρ,o.weak (fun u=>?_) fun b=>?_⟩;{grind [iO,AS.view,aSL,weakP]};{simp only[iO,AS.view];cases hk:lk s.hp b with|none=>simp|some k=>exact .inr ⟨k,k,rfl,rfl,by cases k<;>simp[wkB]⟩}
theorem AWp.keep {c:Code} {Q:Exit->AS->Prop} {s:AS} (l:List Nat) (h:AWp P C c Q (iO l s)):AWp P C c Q s:=fun a w o=>h a w (o.keep l)
theorem AWp.regK0 {id:Nat} {Q:Exit->AS->Prop} {s:AS} (live:List Nat) (A:List Bool) (L:List ROp) (R:List Res) (o:lN P ops A ops.toList=some L) (D:fZ C.N L=true) (h:∀K:AS->Prop,(∀s',Q .normal s'->K s')->kW P L (cT L R) s [] [] (fun s' _=>K (iO live s'))):AWp P C (.region id ops false) Q s:=by obtain⟨I,ob,h1,M,s',Z,J,O,S,_⟩:=jT L _ s s [] [] _ (h (Q .normal) (fun _ h=>h)) (Rel.refl _);obtain⟨E,U,hV,_⟩:=wL L _ s I ob h1 M D;intro a w W;exact aHA o U W fun a' w' Y=>⟨_,(O.sim (by grind)).keep live,S⟩
def bareO (r:ROp):ROp:={r with after:=[]}
theorem AWp.regKL {id:Nat} {Q:Exit->AS->Prop} {s:AS} (hm:P.follows .mixedOrders=true) (E:List (List Nat)) (live:List Nat) (M:List Bool) (L:List ROp) (R:List Res) (D:lN P ops M ops.toList=some L) (O:fZ C.N L=true) (o:uB L 0=true) (S:zT E L E=true) (h:∀K:AS->Prop,(∀s',Q .normal s'->K s')->kW P L (cT L R) s [] [] (fun s' I=>jH E I 0=true/\K (iO live s'))):AWp P C (.region id ops true) Q s:=by obtain⟨U,ob,h1,W,s',G',J,Y,Z,h5⟩:=jT L _ s s [] [] _ (h (Q .normal) (fun _ h=>h)) (Rel.refl _);have A:jH (gU L []) (mT P L (cT L R) s) 0=true:=aFE (bHB o S) _ _ (aTD h5 0 (by simp_all));have:=AWp.regionD hm (C:=C) (Q:=fun e t=>e=.normal/\t.view=U.view) R D O o A h1 W ⟨rfl,rfl⟩ (id:=id);intro a w hs;refine wpIn_mono (this a w hs) ?_;rintro e a' w' ⟨t,ht,rfl,hv⟩;exact⟨_,(Y.sim (by simp_all)).keep live,Z.2⟩
attribute [simp] inN aSR iO
theorem aQB {s:ByteArray} (h:¬s=⟨#[]⟩):0<s.size:=by refine Nat.pos_of_ne_zero fun o=>h ?_;obtain⟨⟨l⟩⟩:=s;have:l=[]:=List.eq_nil_of_length_eq_zero o;simp[*]
theorem ob {p q:Prop} (h:q) (hp:p:=by first|(show jH _ _ _=true;kernel_rfl)|omega|(intros;omega)|(intros;exact aQB (by assumption))|assumption):p/\q:=⟨hp,h⟩
theorem Rsv.clos {g:Nat->Option Blk} {x y:AV} (h:x=y) (o:noref y=true):Rsv g x y:=by subst h;exact .closed o
attribute [simp] kW bVL okO yV bED bMH bQZ aHC bAR clr anc
@[simp] theorem ite_vb (p:Prop) [Decidable p] (x y:Bool):(if p then AV.val (.bool x)else AV.val (.bool y))=AV.val (.bool ((decide p&&x)||(!decide p&&y))):=by by_cases h:p<;>simp[h]
@[simp] theorem int_beq (a b:Int):(a==b)=decide (a=b):=rfl
@[simp] theorem int_bne (a b:Int):(a != b)= !decide (a=b):=rfl
@[simp] theorem cRS (n:Nat):((n:Int)=1)=(n=1):=propext (by omega)
@[simp] theorem or_nand (a b:Bool):(a||(!a&&b))=(a||b):=by cases a<;>rfl
@[simp] theorem cQW (a b:Bool):((!a)||(a&&b))=(!a||b):=by cases a<;>rfl
@[simp] theorem ite_vi (p:Prop) [Decidable p] (k:IntKind) (x y:Int):(if p then AV.val (.int k x)else AV.val (.int k y))=AV.val (.int k (if p then x else y)):=by split<;>rfl
end Go.Aw
namespace Go.Aw
variable [GL]
theorem tT {fz:Fz} {ρ:Ren}:∀ {vs us:List Value},HoldsL fz (vs.map AV.val) ρ us->us=vs
 |[],us,h=>by assumption
 |v::vs,us,h=>by simp only[List.map_cons,HoldsL,Holds]at h;obtain⟨u,r,rfl,rfl,h⟩:=h;rw[tT h]
theorem Con.lib {P:Program} {f:FuncId} (vs:List Value) (v:Value) (he:Enters P f) (h:∀w,Calls P f vs.toArray w fun e w'=>e=.returned v/\Ext w w'):Con P f (vs.map .val) (.val v):=by
 refine⟨he,fun fz w us A _ D=>?_⟩;have hu:us=vs.toArray:=by rw[<-tT D]
 subst hu;refine(h w).mono ?_;rintro e w' ⟨rfl,E⟩;exact⟨v,fz,rfl,E,Fz.le_refl _,⟨fun c o u hu=>E.cell (A.1 c o u hu),fun c o I=>E.heap (A.2 c o I)⟩,fun _ _=>⟨fun _=>rfl,rfl⟩,by rfl,fun el wd rows J=>by cases J⟩
end Go.Aw
namespace Go.Aw
variable [GL]
theorem WkR.refl:∀ (l:List (List AV)),WkR l l|[]=>.nil|x::l=>.cons (.refl x) (WkR.refl l)
end Go.Aw
end
section
namespace Go.Aw
variable [GL]
variable {P:Program} {C:Ctx} {V:View} {a:Act} {w:World} {fz:Fz} {ρ:Ren} {ops:Array Oper}
open Classical in
noncomputable def Ctx.startO (w:World) (fz:Fz) (v:Value) (n:Nat):Ctx:={B:=w.heap.size,N:=n,w0:=w,Mu:=fun c=>decide (gI v=some c/\c<w.heap.size),fz0:=fz}
def EndsO (o:List ResultVar) (e:TypeId) (wd:Nat) (rows:List (List AV)) (s:AS):Prop:=∃t,o=[.tmp t]/\lk s.tm t=some (.own e wd rows)
end Go.Aw
namespace Go.Aw
variable [GL]
theorem Con.libG {P:Program} {f:FuncId} (vs:List Value) (v:Value) (he:Enters P f) (h:∀fz w,sK fz w->GLok fz->Calls P f vs.toArray w fun e w'=>e=.returned v/\Ext w w'):Con P f (vs.map .val) (.val v):=by
 refine⟨he,fun fz w us A D E=>?_⟩;have hu:us=vs.toArray:=by rw[<-tT E]
 subst hu;refine(h fz w A D).mono ?_;rintro e w' ⟨rfl,G⟩;exact⟨v,fz,rfl,G,Fz.le_refl _,⟨fun c o u hu=>G.cell (A.1 c o u hu),fun c o I=>G.heap (A.2 c o I)⟩,fun _ _=>⟨fun _=>rfl,rfl⟩,by rfl,fun el wd rows J=>by cases J⟩
end Go.Aw
namespace Go.Aw
variable [GL]
variable {P:Program}
theorem aPD {b:Nat} {t:TypeId} {x y:AV} (o:aG x=false) {p:Pl} (hp:aG ((hpV (lk [(b,Blk.cells t [x,y])])).at p)=true):p=.c b 1:=by cases p with|t i=>grind [View.at,hpV,aG]|c A j=>simp only[View.at,hpV,lk]at hp;grind [Blk.at,aG]
theorem cDU {α:Type} {b o:Nat} {k A:α} (h:lk [(b,k)] o=some A):o=b/\A=k:=by simp_all
theorem ConM.set0 {f:FuncId} {t:TypeId} {b:Nat} {L x1 y r:AV} (Y rv:Nat->Value) (he:Enters P f) (hr:aG r=false) (h0:aG L=false) (h1:aG x1=false) (ab:∀ (fz:Fz) (ρ:Ren) (c:Nat),ρ b=some c->Holds fz x1 ρ (Y c)) (M:∀c,(Y c).oneCell'=true) (ac:∀ (fz:Fz) (ρ:Ren) (c:Nat),ρ b=some c->Holds fz r ρ (rv c)) (h:∀ (fz:Fz) (ρ:Ren) (w:World) (c:Nat) (v0 v1:Value),ρ b=some c->w.heap[c]? =some (.cells #[v0,v1] t (0,0))->Holds fz L ρ v0-> Calls P f #[.pointer (some ⟨c,0,none⟩)] w fun e w'=>e=.returned (rv c)/\w'.os=w.os/\w'.tape=w.tape/\bZB w w'/\w'.heap.size=w.heap.size/\(∀k,k≠c->w'.heap[k]? =w.heap[k]?)/\w'.heap[c]? =some (.cells #[Y c,v1] t (0,0))): ConM P f [(b,.cells t [L,y])] [.ptr b 0] r [(b,.cells t [x1,y])]:=by
 refine⟨he,hr,fun fz ρ w vs O _ hm _ am=>?_⟩;obtain⟨c,A,hB,S,ad⟩:=hm.hp b (.cells t [L,y]) (by simp);obtain⟨cur,k1,k2,k3⟩:=hB;obtain⟨v0,v1,rfl,ae,af⟩:∃v0 v1,cur= #[v0,v1]/\Holds fz L ρ v0/\Holds fz y ρ v1:=by grind [HoldsL,Array.toList_inj]
 have G:vs= #[.pointer (some ⟨c,0,none⟩)]:=by grind [HoldsL,Holds,Array.toList_inj]
 subst G;refine(h fz ρ w c v0 v1 A k1 ae).mono ?_;rintro e w' ⟨rfl,ag,x2,x3,x4,x5,x6⟩;have av:rP ρ w (lk [(b,Blk.cells t [L,y])]) c:=.inl ⟨b,A⟩;have I:bM aMD w' ρ (.c b 1)=bM aMD w ρ (.c b 1):=by simp_all [bM,cQ]
 have E:∀x:AV,(hpV (lk [(b,Blk.cells t [x,y])])).at (.c b 1)=y:=fun x=>by simp[View.at,hpV,lk,Blk.at]
 have D:∀g,(∀Z,ρ Z≠some g)->g≠c:=fun g hg e=>hg b (by simp[*]);refine⟨rv c,fz,ρ,rfl,⟨ag,x2,x3,by omega,fun k hk hn=>x5 k fun e=>hn (by simp_all)⟩,Fz.le_refl _,⟨fun U o v G=>?_,fun U o G=>?_⟩,fun _ _ _=>⟨fun _=>rfl,rfl⟩,?_,Ren.le_refl _,fun _ _ h=>.inl h,fun U hc=>.inr ?_,ac fz ρ c A⟩;{have D:U≠c:=(by rintro rfl;rw[S]at G;cases G);have hold:=O.1 _ _ _ G;simp_all [World.cell?]};{have D:U≠c:=(by grind);rw[x5 U D];exact O.2 _ _ G};{refine⟨fun Z k hk=>?_,fun Z J=>?_,hm.inj,fun p e wd rows hp=>?_,fun p q hp hq=>?_⟩;{obtain⟨rfl,rfl⟩:=cDU hk;refine⟨c,A,⟨#[Y c,v1],x6,?_,fun u hu=>?_⟩,S,ad⟩;{simp only[HoldsL];exact⟨_,_,rfl,ab fz ρ c A,_,_,rfl,af,rfl⟩};{simp at hu;rcases hu with rfl|rfl;{exact M c};{exact k3 u (by simp)}}};{refine hm.dom Z ?_;simp only[lk]at J|-;split at J;{cases J};{rename_i e;rw[if_neg e]}};{have K:=aPD h1 (p:=p) (by rw[hp];rfl);subst K;rw[E]at hp;have ht:=hm.tips (.c b 1) e wd rows (by rw[E];exact hp);rw[I];rcases ht with hh|⟨g,cap,cu,y1,y2,y3,y4,y5,y6,y7,y8⟩;{exact .inl hh};{exact .inr ⟨g,cap,cu,y1,by rw[x5 g (D g y8)];exact y2,y3,y4,y5,y6,y7,y8⟩}};grind [aPD]};{rcases hc with hc|⟨p,g,n',W,ho,ba,aj⟩;{exact .inl hc};{have K:=aPD h1 ho;subst K;refine .inr ⟨.c b 1,g,n',W,by simp_all,by simp_all,aj⟩}}
theorem ConM.text {f:FuncId} {t e1:TypeId} {b:Nat} {G:AV} {l:List UInt8} (he:Enters P f) (h0:aG G=false) (hl:l≠[]) (h:∀ (w:World) (c g cap:Nat) (v0:Value) (cur:Array Value),w.heap[c]? =some (.cells #[v0,.slice (some ⟨g,0,none⟩) l.length cap] t (0,0))->w.heap[g]? =some (.cells cur e1 (0,0))->l.length<=cap->cur.size=cap->cap<=maxLen-> (∀ (j:Nat) (x:UInt8),l[j]? =some x->cur[j]? =some (.int .u8 x.toNat))-> Calls P f #[.pointer (some ⟨c,0,none⟩)] w fun e w'=>e=.returned (.string ⟨l.toArray⟩)/\w'=w.drew.freeze ⟨g,0,none⟩ l.length): ConM P f [(b,.cells t [G,.own e1 1 (l.map fun b=>[AV.val (.int .u8 (b.toNat:Int))])])] [.ptr b 0] (.val (.string ⟨l.toArray⟩)) [(b,.cells t [G,.unk])]:=by
 refine⟨he,rfl,fun fz ρ w vs I _ hm _ a2=>?_⟩;obtain⟨c,O,hB,af,ag⟩:=hm.hp b _ (by simp[lk];rfl);obtain⟨S,k1,k2,k3⟩:=hB;obtain⟨v0,v1,rfl,ah,U⟩:∃v0 v1,S= #[v0,v1]/\Holds fz G ρ v0/\Holds fz (.own e1 1 (l.map fun b=>[AV.val (.int .u8 (b.toNat:Int))])) ρ v1:=by grind [HoldsL,Array.toList_inj]
 have W:vs= #[.pointer (some ⟨c,0,none⟩)]:=by grind [HoldsL,Holds,Array.toList_inj]
 subst W;have Y:(hpV (lk [(b,Blk.cells t [G,.own e1 1 (l.map fun b=>[AV.val (.int .u8 (b.toNat:Int))])])])).at (.c b 1)=.own e1 1 (l.map fun b=>[AV.val (.int .u8 (b.toNat:Int))]):=by simp[View.at,hpV,lk,Blk.at]
 have ht:=hm.tips (.c b 1) _ _ _ Y;have J:bM aMD w ρ (.c b 1)=v1:=by simp[bM,O,cQ,k1]
 rw[J]at ht;have Z:(l.map fun b=>[AV.val (.int .u8 (b.toNat:Int))]).length=l.length:=by simp
 rcases ht with⟨_,hh⟩|⟨g,cap,cur,y1,y2,y3,y4,y5,y6,y7,y8⟩;{simp_all};{subst y1;rw[Z]at y3 k1 J;simp only[Holds]at U;obtain⟨ad,cp,ai,_,K⟩:=U;have D:∀ (j:Nat) (x:UInt8),l[j]? =some x->cur[j]? =some (.int .u8 x.toNat):=(by intro j x hj;rcases K with hn|⟨b',o',ak,K⟩;{simp_all};{cases ai;cases ak;have ax:(l.map fun b=>[AV.val (.int .u8 (b.toNat:Int))])[j]? =some [AV.val (.int .u8 (x.toNat:Int))]:=(by rw[List.getElem?_map,hj];rfl);obtain⟨a9,l1,ba,_⟩:=HoldsR.list _ 1 g 0 K;have key:∀ (l:List UInt8) (o:Nat),HoldsR fz (l.map fun b=>[AV.val (.int .u8 (b.toNat:Int))]) 1 g o-> ∀ (j:Nat) (x:UInt8),l[j]? =some x->fz.cell g (o+j)=some (.int .u8 x.toNat):=(by intro l;induction l with|nil=>intro o _ j x hx;simp at hx|cons a l ih=>intro o K j x hx;simp only[List.map_cons,HoldsR,HoldsC,Holds]at K;obtain⟨_,⟨⟨u,hu,_,rfl⟩,_⟩,al⟩:=K;cases j with|zero=>simp at hx;subst hx;exact hu|succ j=>have:=ih (o+1) al j x (by simpa using hx);rwa [show o+1+j=o+(j+1)from by omega]at this);have ab:=key l 0 K j x hj;rw[Nat.zero_add]at ab;have:=I.1 _ _ _ ab;simp_all [World.cell?,Option.isSome_none,Bool.false_eq_true,if_false]});have am:g≠c:=fun e=>y8 b (by simp[*]);refine(h w c g cap v0 cur k1 y2 y3 (by have:=y5.1;omega) y4 D).mono ?_;rintro e w' ⟨rfl,rfl⟩;have L:l.length≠0:=(by simp[*]);have A:∀k,k≠g->(w.drew.freeze ⟨g,0,none⟩ l.length).heap[k]? =w.heap[k]?:=(by intro k hk;unfold World.freeze;rw[if_neg L];simp only[Array.getElem?_modify];rw[if_neg (fun e=>hk e.symm)];rfl);have E:∃fr,(w.drew.freeze ⟨g,0,none⟩ l.length).heap[g]? =some (.cells cur e1 fr):=(by unfold World.freeze;rw[if_neg L];have:w.drew.heap[g]? =some (.cells cur e1 (0,0)):=y2;grind);obtain⟨fr,bc⟩:=E;have bd:(w.drew.freeze ⟨g,0,none⟩ l.length).heap.size=w.heap.size:=(by simp_all [World.freeze,if_neg]);have be:rP ρ w (lk [(b,Blk.cells t [G,.own e1 1 (l.map fun b=>[AV.val (.int .u8 (b.toNat:Int))])])]) g:=.inr ⟨.c b 1,⟨g,0,none⟩,l.length,cap,by rw[Y];rfl,J,rfl⟩;have an:∀p,aG ((hpV (lk [(b,Blk.cells t [G,.unk])])).at p)=false:=(by intro p;cases ho:aG ((hpV (lk [(b,Blk.cells t [G,.unk])])).at p)with|false=>rfl|true=>have:=aPD h0 ho;simp_all [View.at,hpV,lk,Blk.at,aG]);have hw:(w.drew.freeze ⟨g,0,none⟩ l.length).os=w.os/\(w.drew.freeze ⟨g,0,none⟩ l.length).tape=w.tape/\bZB w (w.drew.freeze ⟨g,0,none⟩ l.length):=(by unfold World.freeze;rw[if_neg L];exact⟨rfl,rfl,⟨rfl,fun _=>Nat.le_succ _⟩⟩);refine⟨_,fz,ρ,rfl,⟨hw.1,hw.2.1,hw.2.2,by omega,fun k hk hn=>A k fun e=>hn (by simp_all)⟩,Fz.le_refl _,⟨fun c' o v W=>?_,fun c' o W=>?_⟩,fun _ _ _=>⟨fun _=>rfl,rfl⟩,?_,Ren.le_refl _,fun _ _ h=>.inl h,fun c' hc=>.inr ?_,by rfl⟩;{have hold:=I.1 _ _ _ W;grind [World.cell?]};{have ap:c'≠g:=(by grind);rw[A c' ap];exact I.2 _ _ W};{refine⟨fun b' k hk=>?_,fun b' M=>?_,hm.inj,fun p e wd rows hp=>?_,fun p q hp hq=>?_⟩;{obtain⟨rfl,rfl⟩:=cDU hk;refine⟨c,O,⟨_,by rw[A c (fun e=>am e.symm),Z];exact k1,?_,k3⟩,af,ag⟩;simp only[HoldsL,Holds];exact⟨_,_,rfl,ah,_,_,rfl,trivial,rfl⟩};{refine hm.dom b' ?_;simp only[lk]at M|-;split at M;{cases M};{rename_i e;rw[if_neg e]}};{have:=an p;rw[hp]at this;cases this};simp_all};{rcases hc with hc|⟨p,g',n',a0,ho,_⟩;{exact .inl hc};simp_all}}
end Go.Aw
end
