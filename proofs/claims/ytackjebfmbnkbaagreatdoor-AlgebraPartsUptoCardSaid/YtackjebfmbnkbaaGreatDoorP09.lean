/- Ranges over functions: the iterator's iQ in terms of its rounds; the statement. -/
import Derived.Test.YtackjebfmbnkbaaGreatDoorP08
import Derived.RangeFuncLeaves
import Derived.RangeFuncRecord
set_option linter.unusedSimpArgs false
set_option linter.unusedVariables false
set_option linter.unusedSectionVars false
section
namespace Go.Aw
abbrev yv (l:Nat):AV:=.val (.func (.yield l) #[] #[])
def bZF (P:Program) (A:FuncId) (o:List AV) (xs:List (List AV)):Prop:=
 ∀ (_:GL) (l:Nat) (ns:List Nat) (H:Nat->List (Nat×Blk)) (m:Nat),m<=xs.length->ns≠[]->ns.Nodup->(∀b∈ns,1000<=b/\b<2000)->(∀k,(H k).map (·.1)=ns)->(∀k,∀p∈H k,p.2.within ns)->
  (∀k x,k<m->xs[k]? =some x->cIA (aVF P l) (H k) x (.val (.bool true)) (H (k+1)))->(∀x,xs[m]? =some x->cIA (aVF P l) (H m) x (.val (.bool false)) (H (m+1)))->
  ConM P A (H 0) (yv l::o) (.tup []) (H (if m<xs.length then m+1 else m))
variable [GL]
variable {P:Program} {C:Ctx} {V:View} {a:Act} {w:World} {fz:Fz} {ρ:Ren}
theorem aLS {a a':Act} (h:a'.tmps=a.tmps) (p:Pl):bM a' w ρ p=bM a w ρ p:=by simp_all [bM]
theorem SimE.rdf (h:SimE C V a w fz ρ) (rd:Option Nat) {df:List Deferred} {a':Act} (o:a'.tmps=a.tmps) (A:a'.defers=df):SimE {C with rd:=rd,df:=df} V a' w fz ρ:=
 {df:=A,sz:=by rw[o];exact h.sz,tm:=fun t=>by rw[o];exact h.tm t,hp:=h.hp,dom:=h.dom,inj:=h.inj,fcell:=h.fcell,fobj:=h.fobj,f0:=h.f0,gl:=h.gl,f1:=h.f1,
  tips:=fun p e wd rows hp=>by rw[aLS o];exact h.tips p e wd rows hp,tipinj:=fun p q hp D g E n G c I h1 K J=>h.tipinj p q hp D g E n G c I (by grind [aLS]) (by grind [aLS]) J,
  os:=h.os,tape:=h.tape,output:=h.output,bsz:=h.bsz,old:=h.old,mub:=h.mub,keep:=h.keep,hi:=h.hi,muρ:=h.muρ,br:=h.br,nn:=h.nn}
theorem SimE.hid (h:SimE C V a w fz ρ) {b l:Nat} {o:Obj} (A:V.hp b=some (.hid l o)):ρ b=some l/\w.heap[l]? =some o:=by obtain⟨c,E,_,D,_⟩:=h.hp b _ A;obtain⟨rfl,G⟩:=D;simp[*]
theorem SimE.setHid (h:SimE C V a w fz ρ) {b l:Nat} {o:Obj} (A:Obj) (D:V.hp b=some (.hid l o)):SimE C (V.setB b (.hid l A)) a (w.putObj l A) fz ρ:=by obtain⟨E,G⟩:=h.hid D;exact h.setBlk D E rfl rfl ⟨rfl,fun _=>Nat.le_refl _⟩ (by simp) (fun i hi=>World.putObj_heap_other hi) ⟨rfl,World.putObj_heap_same (cE G)⟩ (fun j I=>by grind [Blk.at,aG])
theorem SimE.newHid (h:SimE C V a w fz ρ) {b:Nat} (o:Obj) (A:C.ρ0 b=none) (D:GL.bren b=none) (E:V.hp b=none):SimE C (V.setB b (.hid w.heap.size o)) a (w.alloc o) fz (Ren.set ρ b w.heap.size):=
 h.newBlk A D E (Ext.alloc w o) ⟨rfl,World.alloc_heap_new w o⟩ (fun j=>rfl)
theorem SimE.view (h:SimE C V a w fz ρ) {o:View} (A:∀t,o.tm t=V.tm t) (D:∀b,o.hp b=V.hp b):SimE C o a w fz ρ:=by rw[show o=V from View.ext A D];exact h
def lD (ns:List Nat):List (Nat×AV)->List (Nat×AV)
 |[]=>[]
 |(t,x)::r=>if Aw.within ns x=true then(t,dem x)::lD ns r else(t,.unk)::lD ns r
def mZ:List Nat->List AV->List (Nat×AV)->List (Nat×AV)
 |p::ps,x::xs,tm=>mZ ps xs (ins p (dem x) tm)
 |_,_,tm=>tm
theorem jK (ns:List Nat) (t:Nat):∀r:List (Nat×AV),lk (lD ns r) t=(lk r t).map fun x=>if Aw.within ns x=true then dem x else .unk|[]=>rfl|(u,x)::r=>by simp only[lD];split<;>rename_i o<;>simp only[lk]<;>split<;>first|exact jK ns t r|simp[o]
theorem bKX {ns:List Nat} {x:AV} (h:Aw.within ns x=true):Aw.within ns (dem x)=true:=by cases x<;>first|exact h|rfl
theorem aVR {ns:List Nat} {s:AS} {fz':Fz} {ρ':Ren} (h:∀t,Holds fz (s.view.tm t) ρ (a.tmps.getD t undef)) (A:fz.le fz') (o:∀b∈ns,ρ' b=ρ b) (t:Nat): Holds fz' ((lk (lD ns s.tm) t).getD .unk) ρ' (a.tmps.getD t undef)/\aG ((lk (lD ns s.tm) t).getD .unk)=false:=by
 have h:=h t;simp only[AS.view]at h;rw[jK];cases D:lk s.tm t with
 |none=>simp[Holds,aG]
 |some x=>
  rw[D]at h
  simp only[Option.map_some,Option.getD_some]at h|-
  split
  ·rename_i hw
   exact⟨(h.dem.within (l:=ns) (fun b E=>o b (by simpa using E)) _ _ (bKX hw)).mono A _ _ _ _ (Ren.le_refl _),cV x⟩
  ·simp[Holds,aG]
theorem aMS:∀ (ps:List Nat) (xs:List AV) (tm:List (Nat×AV)) (tmps:Array Value) (vs:List Value),HoldsL fz xs ρ vs->(∀p∈ps,p<tmps.size)-> (∀t,Holds fz ((lk tm t).getD .unk) ρ (tmps.getD t undef)/\aG ((lk tm t).getD .unk)=false)-> ∀t,Holds fz ((lk (mZ ps xs tm) t).getD .unk) ρ (((ps.zip vs).foldl (fun ts (p,v)=>ts.setIfInBounds p v) tmps).getD t undef)/\aG ((lk (mZ ps xs tm) t).getD .unk)=false
 |[],xs,tm,tmps,vs,_,_,h,t=>by simp_all [mZ]
 |p::ps,[],tm,tmps,vs,o,_,h,t=>by simp_all [HoldsL,mZ]|p::ps,x::xs,tm,tmps,vs,o,hp,h,t=>by simp only[HoldsL]at o;obtain⟨v,r,rfl,h1,D⟩:=o;simp only[mZ,List.zip_cons_cons,List.foldl_cons];refine aMS ps xs _ _ r D (fun q E=>by simp[*]) (fun u=>?_) t;have A:=hp p (by simp);rw[pI,Array.getD_eq_getD_getElem?,Array.getElem?_setIfInBounds];by_cases e:p=u;{subst e;simp[A];exact⟨h1.dem,cV x⟩};{have G:¬u=p:=fun q=>e q.symm;simp_all}
theorem aEX {α:Type}:∀ (l m:List (Nat×α)) (b:Nat),lk (l++m) b=match lk l b with|some x=>some x|none=>lk m b
 |[],m,b=>rfl|(j,x)::l,m,b=>by simp only[List.cons_append,lk];split;{rfl};{exact aEX l m b}
def aSS:Exit->Option (Option Code)
 | .normal=>some none
 | .ret=>some (some .ret)
 | .exit id=>some (some (.exit id))
 |_=>none
abbrev Loop.busy (R:Loop):Loop:={R with state:=.busy}
abbrev Loop.left (R:Loop) (j:Option Code):Loop:={R with state:=if j.isNone then .ready else .done,pending:=j}
theorem bAS [NB] {ok:Fz->Prop} {rl:Ren->Prop} {s:AS} {ns:List Nat} {B B':List (Nat×Blk)} {x:List AV} {l N:Nat} {R:Loop} {e0:Exit} {j:Option Code} (hj:aSS e0=some j) (hG:∀fz',ok fz'->GLok fz'/\fz.le fz') (hR:∀ρ',rl ρ'-> ∀b∈ns,ρ' b=ρ b) (ag:∀t,Holds fz (s.view.tm t) ρ (a.tmps.getD t undef)) (bg:a.tmps.size=N) (hN:N<=1000) (ah:R.state=.ready) (ai:R.tmps=a.tmps) (O:B.map (·.1)=ns) (S:B'.map (·.1)=ns) (U:∀b∈ns,1000<=b/\b<1990) (hx:x.length=R.params.size) (bi:∀p∈R.params.toList,p<N) (E:∀C2:Ctx,C2.N=N->AWp P C2 R.assign (fun e s1=>e=.normal/\lk s1.hp 1999=some (.hid l (.loop R))/\ AWp P C2 R.body (fun e s2=>e=e0/\AS.le {tm:=[],hp:=B'++[(1999,.hid l (.loop (Loop.busy R)))]} s2) (s1.setB 1999 (.hid l (.loop (Loop.busy R))))) {tm:=mZ R.params.toList x (lD ns s.tm),hp:=B++[(1999,.hid l (.loop R))]}): cSB GL.dr ok rl (aVF P l) (B++[(1999,.hid l (.loop R))]) x (.val (.bool j.isNone)) (B'++[(1999,.hid l (.loop (Loop.left R j)))]):=by
 refine⟨rfl,fun G I w2 vs ak al A am W=>?_⟩;obtain⟨Y,an⟩:=hG G al;have ao:=hR I am;have ba:∀ {L:List (Nat×Blk)},L.map (·.1)=ns->lk L 1999=none:=by intro L hL;cases hk:lk L 1999 with|none=>rfl|some k=>have:=U 1999 (by rw[<-hL];simpa using nT hk);omega
 have ap:∀ {L:List (Nat×Blk)} (o:Obj),L.map (·.1)=ns->lk (L++[(1999,.hid l o)]) 1999=some (.hid l o):=by simp_all [aEX]
 have Z:∀ {L:List (Nat×Blk)} (o o':Obj),L.map (·.1)=ns-> ∀b,lk (L++[(1999,.hid l o')]) b=if b=1999 then some (.hid l o')else lk (L++[(1999,.hid l o)]) b:=by intro L o o' hL b;by_cases e:b=1999;{simp[*]};{rw[if_neg e,aEX,aEX];grind [lk]}
 obtain⟨c,hc,⟨rfl,ho⟩,_⟩:=A.hp 1999 _ (ap _ O);have hlen:vs.size=R.params.size:=by have:=W.len;simp_all
 have ar:∀ {L:List (Nat×Blk)},L.map (·.1)=ns-> ∀b k,lk (L++[(1999,.hid c (.loop R))]) b=some k->1000<=b/\b<2000:=by intro L hL b k hk;rw[aEX]at hk;cases hb:lk L b with|some k'=>have:=U b (by rw[<-hL];simpa using nT hb);omega|none=>grind [lk]
 have D:=aMS (fz:=G) (ρ:=I) R.params.toList x (lD ns s.tm) a.tmps vs.toList W (fun p hp=>by simp[*]) (aVR ag an ao);have J:(R.params.zip vs).foldl (fun tmps (t,a)=>tmps.setIfInBounds t a) R.tmps=(R.params.toList.zip vs.toList).foldl (fun ts (p,v)=>ts.setIfInBounds p v) a.tmps:=by rw[<-Array.foldl_toList,Array.toList_zip,ai]
 have bl:∀ (l:List (Nat×Value)) (t:Array Value),(l.foldl (fun ts (p,v)=>ts.setIfInBounds p v) t).size=t.size:=by intro l;induction l with|nil=>simp|cons p l ih=>simp[*]
 have au:=yD (a:={tmps:=(R.params.toList.zip vs.toList).foldl (fun ts (p,v)=>ts.setIfInBounds p v) a.tmps,defers:=[]}) (V:=({tm:=mZ R.params.toList x (lD ns s.tm),hp:=B++[(1999,.hid c (.loop R))]}:AS).view) ak Y A (fun b c k hb=>by rw[NB.nb]at hb;cases hb) hN (ar O) rfl (by simp[*]) (fun t=>(D t).1) (fun t=>(D t).2) (fun _=>rfl);have av:=au.rdf (some c) rfl rfl;refine⟨R.fn,_,R.assign,R.body,run_yield ho hlen,?_⟩;rw[J];refine roundIn_of_wpIn (F:=Fence.wide) trivial (wpIn_mono (E _ rfl _ w2 ⟨G,I,av⟩) ?_);rintro e a1 w3 ⟨s1,⟨aw,ax,aa⟩,rfl,ab,ay⟩;obtain⟨_,az⟩:=aa.hid ab;refine⟨_,run_beginRound az ah,?_⟩;refine wpIn_mono (ay a1 _ ⟨aw,ax,by rw[jC];exact aa.setHid _ ab⟩) ?_;rintro e a2 w5 ⟨s2,⟨a0,bn,a3⟩,rfl,hle⟩;obtain⟨a4,V6,K,bc,a5⟩:=a3.toH (r:=.val (.bool j.isNone)) (v:=.bool j.isNone) hle rfl (by rfl);have h6:V6.hp 1999=some (.hid c (.loop (Loop.busy R))):=by simp[*]
 obtain⟨_,a6⟩:=K.hid h6;have a7:=(K.setHid (.loop (Loop.left R j)) h6).rdf none rfl K.df;have ac:∀b k,lk (B++[(1999,.hid c (.loop R))]) b=some k-> ∃k',lk (B'++[(1999,.hid c (.loop (Loop.left R j)))]) b=some k':=by intro b k hk;refine jY ?_;grind [nT]
 have M:=sZ A ac a7 (fun b=>by simp only[View.setB];rw[Z (.loop (Loop.busy R)) _ S b];simp[*]) a5
 have ad:=run_endRound (P:=P) j a6;cases e<;>simp only[aSS,Option.some.injEq,reduceCtorEq]at hj<;>subst hj<;>exact⟨_,_,ad,_,a0,a4,rfl,M⟩
mutual
theorem aHP (l:List Nat):∀x:AV,noref x=true->Aw.within l x=true
 | .unk,_| .val _,_| .rd ..,_| .fx ..,_| .own ..,_| .elt ..,_| .rmap ..,_| .kset ..,_=>rfl
 | .agg x,h=>by simp only[noref]at h;simp only[Aw.within];exact nD l x h
 | .tup x,h=>by simp only[noref]at h;simp only[Aw.within];exact nD l x h
 | .clo _ x,h=>by simp only[noref]at h;simp only[Aw.within];exact nD l x h
 | .ifc _ x,h=>by simp only[noref]at h;simp only[Aw.within];exact aHP l x h
theorem nD (l:List Nat):∀x:List AV,aW x=true->bD l x=true|[],_=>rfl|x::xs,h=>by simp only[aW,Bool.and_eq_true]at h;simp only[bD,Bool.and_eq_true];exact⟨aHP l x h.1,nD l xs h.2⟩
end
theorem xV (s:AS):∀l:List (Nat×Blk),(s.setBs l).view=s.view.setBs l
 |[]=>rfl
 |(b,k)::l=>by simp only[AS.setBs,View.setBs,jC,xV s l]
abbrev Mk (C:Ctx) (D:Nat):Ctx:={C with df:=[{target:=.collected D,args:=#[]}]}
abbrev dB (D:Nat):Blk:=.hid D (.deferred (some []))
def AWpM (P:Program) (C:Ctx) (c:Code) (Q:Nat->Exit->AS->Prop) (s:AS):Prop:=
 ∀ (a:Act) (w:World),Sim C s.view a w->c.wpIn (fen C) 0 P (fun e a' w'=>∃D,∃s':AS,s'.view.hp 1998=some (dB D)/\Sim (Mk C D) s'.view a' w'/\Q D e s') a w
theorem AWpM.range [NB] {g : Operand} {ps : Array Tmp} {assign body : Code} {Q : Nat -> Exit -> AS -> Prop} {s : AS} {gf : FuncId} {L : List AV} (hC : C.rd = none /\ C.df = [] /\ C.N <= 1000) (av : C.ρ0 1998 = none /\ C.ρ0 1999 = none)
    (hg : s.view.ev g = .clo (.func gf) L) (Y : aW L = true) (xs : List (List AV)) (hit : bZF P gf L xs) (ns : List Nat) (B : Nat -> List (Nat × Blk)) (ck : ns.Nodup) (aw : ∀ b ∈ ns, 1000 <= b /\ b < 1990)
    (hB : ∀ k, (B k).map (·.1) = ns) (bq : ∀ k, ∀ p ∈ B k, p.2.within (ns ++ [1999])) (hB0 : ∀ p ∈ B 0, s.view.hp p.1 = some p.2) (bt : s.view.hp 1998 = none /\ s.view.hp 1999 = none)
    (hx : ∀ x ∈ xs, x.length = ps.size) (cl : ∀ p ∈ ps.toList, p < C.N) (m : Nat) (hm : m <= xs.length) (jx : Exit) (U : Code) (af : aSS jx = some (some U))
    (ag : ∀ (M : Ctx) (l : Nat) (O O' : Obj) (k : Nat) (x : List AV), M.N = C.N -> k < m -> xs[k]? = some x -> AWp P M assign (fun e s1 => e = .normal /\ lk s1.hp 1999 = some (.hid l O) /\
      AWp P M body (fun e s2 => e = .normal /\ AS.le { tm := [], hp := B (k + 1) ++ [(1999, .hid l O')] } s2) (s1.setB 1999 (.hid l O'))) { tm := mZ ps.toList x (lD ns s.tm), hp := B k ++ [(1999, .hid l O)] })
    (ah : ∀ (M : Ctx) (l : Nat) (O O' : Obj) (x : List AV), M.N = C.N -> xs[m]? = some x -> AWp P M assign (fun e s1 => e = .normal /\ lk s1.hp 1999 = some (.hid l O) /\
      AWp P M body (fun e s2 => e = jx /\ AS.le { tm := [], hp := B (m + 1) ++ [(1999, .hid l O')] } s2) (s1.setB 1999 (.hid l O'))) { tm := mZ ps.toList x (lD ns s.tm), hp := B m ++ [(1999, .hid l O)] })
    (ai : ∀ D l O, m = xs.length -> Q D .normal (((s.setB 1998 (dB D)).setBs (B m)).setB 1999 (.hid l O)))
    (aj : ∀ D l O, m < xs.length -> Q D jx (((s.setB 1998 (dB D)).setBs (B (m + 1))).setB 1999 (.hid l O))) : AWpM P C (.rangeFunc g ps assign body) Q s := by
  rintro a w ⟨fz, ρ, S⟩
  refine wpIn_rangeFunc ?_
  intro bv _
  obtain ⟨cm, bw, az⟩ := hC
  obtain ⟨R, hR⟩ : ∃ R : Loop, R = { state := .ready, pending := none, fn := bv, tmps := a.tmps, params := ps, assign, body, defers := w.heap.size } := ⟨_, rfl⟩
  have h1 := S.newHid (b := 1998) (.deferred (some [])) av.1 (by rw [NB.nb]; rfl) bt.1
  have h2 := h1.newHid (b := 1999) (.loop R) av.2 (by rw [NB.nb]; rfl) (by simp_all [View.setB])
  obtain ⟨l, hl⟩ : ∃ l, l = (w.alloc (.deferred (some []))).heap.size := ⟨_, rfl⟩
  have co : l = w.heap.size + 1 := by simp [*]
  rw [<- hl] at h2
  obtain ⟨w1, bx⟩ : ∃ w1, w1 = (w.alloc (.deferred (some []))).alloc (.loop R) := ⟨_, rfl⟩
  rw [<- bx] at h2
  obtain ⟨al, a1⟩ : ∃ al, al = Ren.set (Ren.set ρ 1998 w.heap.size) 1999 l := ⟨_, rfl⟩
  rw [<- a1] at h2
  have hn : ∀ b ∈ ns, b ≠ 1998 /\ b ≠ 1999 := fun b I => by grind
  have ce : ∀ b ∈ ns, al b = ρ b := fun b I => by simp_all [Ren.set]
  have Z : ∀ k b, b ∈ ns -> ∃ x, lk (B k) b = some x := fun k b I => jY (by simp [*])
  have a2 : ∀ k b, ¬ b ∈ ns -> lk (B k) b = none := by
    intro k b I
    cases hk : lk (B k) b with
    | none => rfl
    | some x => have := nT hk; simp_all
  have cf : ¬ 1999 ∈ ns := fun h => (hn _ h).2 rfl
  have a3 : ¬ 1998 ∈ ns := fun h => (hn _ h).1 rfl
  have a4 : ∀ b ∈ ns, ∃ c, ρ b = some c := by
    intro b I
    obtain ⟨x, hx⟩ := Z 0 b I
    obtain ⟨c, hc, _⟩ := S.hp b x (hB0 _ (aNL hx))
    simp [*]
  obtain ⟨J, a5⟩ : ∃ J : Nat -> List (Nat × Blk), J = fun k => B k ++ [(1999, .hid l (.loop (if k <= m then R else Loop.left R (some U))))] := ⟨_, rfl⟩
  have am : ∀ k, (J k).map (·.1) = ns ++ [1999] := fun k => by simp [*]
  have a6 : ∀ k b, lk (J k) b = if b = 1999 then some (.hid l (.loop (if k <= m then R else Loop.left R (some U)))) else lk (B k) b := by
    intro k b
    rw [a5]
    simp only [aEX]
    by_cases e : b = 1999
    · simp [*]
    · rw [if_neg e]
      grind [lk]
  have a7 : ∀ k, ∀ p ∈ J k, p.2.within (ns ++ [1999]) := by
    intro k p hp
    rw [a5] at hp
    simp only [List.mem_append, List.mem_singleton] at hp
    rcases hp with hp | rfl
    · exact bq k p hp
    · trivial
  have a8 : ∀ b c, (if b ∈ ns then ρ b else none) = some c -> 1000 <= b /\ b < 1990 := by
    simp_all
  obtain ⟨G', a9⟩ : ∃ G' : Unit -> GL, G' = fun _ => ⟨GL.need, fz, fun b => if b ∈ ns then ρ b else none, a8, GL.dr⟩ := ⟨_, rfl⟩
  have an : @GL.dr (G' ()) = GL.dr := by grind
  have ab : ∀ fz', @GLok (G' ()) fz' ↔ ((∀ x ∈ GL.need, ∃ o, fz'.obj x.1 = some o /\ x.2 o) /\ fz.le fz') := fun fz' => by rw [a9]; rfl
  have ac : ∀ H ρ', @bPA (G' ()) H ρ' ↔ ∀ b c k, (if b ∈ ns then ρ b else none) = some c -> H b = some k -> ρ' b = some c := fun H ρ' => by rw [a9]; rfl
  have ba : ∀ fz', @GLok (G' ()) fz' -> GLok fz' /\ fz.le fz' := fun fz' h => by
    have h := (ab fz').1 h
    exact ⟨⟨h.1, Fz.le_trans (Fz.le_trans S.gl.2 S.f0) h.2⟩, h.2⟩
  have bb : ∀ k ρ', @bPA (G' ()) (lk (J k)) ρ' -> ∀ b ∈ ns, ρ' b = ρ b := fun k ρ' h b I => by
    have h := (ac _ _).1 h
    obtain ⟨c, hc⟩ := a4 b I
    obtain ⟨x, hx⟩ := Z k b I
    simp_all
  have b1 : Loop.left R none = R := by simp [*]
  have bc : R.params = ps := by rw [hR]
  have bd : R.assign = assign := by rw [hR]
  have be : R.body = body := by rw [hR]
  have bf : a.tmps.size = C.N := S.sz
  have cg : ∀ {k x}, xs[k]? = some x -> x ∈ xs := fun h => List.mem_of_getElem? h
  have W : ∀ k, k <= m -> J k = B k ++ [(1999, .hid l (.loop R))] := fun k hk => by simp [*]
  have b2 : J (m + 1) = B (m + 1) ++ [(1999, .hid l (.loop (Loop.left R (some U))))] := by simp [*]
  have A := hit (G' ()) l (ns ++ [1999]) J m hm (by simp) (by
      grind) (fun b I => by
      grind) am a7 (fun k x hk ao => by
      have := bAS (P := P) (a := a) (fz := fz) (ρ := ρ) (s := s) (ns := ns) (B := B k) (B' := B (k + 1)) (x := x) (l := l) (N := C.N) (R := R) (e0 := .normal) (j := none) rfl ba (bb k) S.tm bf az (by rw [hR]) (by rw [hR]) (hB k) (hB (k + 1)) aw
        (by grind) (by grind) (by
          intro M hN; rw [bc, bd, be]; exact ag M l _ _ k x hN hk ao)
      rw [b1, <- W k (Nat.le_of_lt hk), <- W (k + 1) hk, <- an] at this
      exact this) (fun x ao => by
      have := bAS (P := P) (a := a) (fz := fz) (ρ := ρ) (s := s) (ns := ns) (B := B m) (B' := B (m + 1)) (x := x) (l := l) (N := C.N) (R := R) (e0 := jx) (j := some U) af ba (bb m) S.tm bf az (by rw [hR]) (by rw [hR]) (hB m) (hB (m + 1)) aw
        (by grind) (by grind) (by
          intro M hN; rw [bc, bd, be]; exact ah M l _ _ x hN ao)
      rw [<- W m (Nat.le_refl _), <- b2, <- an] at this
      exact this)
  obtain ⟨E, bg⟩ : ∃ E, E = if m < xs.length then m + 1 else m := ⟨_, rfl⟩
  rw [<- bg] at A
  obtain ⟨⟨ad, hfn, b4, cp⟩, _, A⟩ := A
  have A := fun (fz : Fz) (ρ : Ren) (w : World) (vs : Array Value) a b c d e => an ▸ A fz ρ w vs a b c d e
  have ap := S.ev g
  rw [hg] at ap
  simp only [Holds] at ap
  obtain ⟨cs, b5, b6⟩ := ap
  have bh : a.eval g = .func (.func gf) #[] cs := b5
  have eg : ∀ args w, (callFunc gf args).run P w = .ok (.enter gf args) w := by
    intro args w
    have I : ¬ ad.body = none := by grind
    have b7 : ¬ ad.name = "runtime.NumGoroutine" := by grind
    simp [callFunc, hfn, b7, I]
  have bi : ∀ b k, lk (J 0) b = some k -> ∃ k', lk (J E) b = some k' := by
    intro b k hk
    refine jY ?_
    grind
  have aq := h2.callM (us := ns ++ [1999]) (g := ((s.view.setB 1998 (.hid w.heap.size (.deferred (some [])))).setB 1999 (.hid l (.loop R))).hp) (fun _ _ h => h) (fun _ _ h => h) (bs := J E) (H := J 0) (ts := yv l :: L) (r := .tup [])
    (fun b k hk => by grind) (fun b k hk => by
      rw [W 0 (Nat.zero_le _), aEX] at hk
      simp only [View.setB]
      by_cases e : b = 1999
      · grind [lk]
      · rw [if_neg e]
        cases I : lk (B 0) b with
        | none =>
          grind [lk]
        | some x =>
          rw [I] at hk
          have b8 : b ∈ ns := by grind
          rw [if_neg (hn b b8).1, hB0 _ (aNL I)]; exact hk)
    (fun b k hk ct => by
      have := nT hk
      grind [jY]) bi (fun b k hk => by rw [am]; exact a7 0 _ (aNL hk))
    (by rw [am]; simp only [bD, Bool.and_eq_true]; exact ⟨rfl, nD _ _ Y⟩) (fun _ _ _ _ hm hc => Calls.mono hc hm) (args := #[.func (.yield l) #[] #[]] ++ cs)
    (by
      simp only [Array.toList_append, List.cons_append, List.nil_append, HoldsL]
      exact ⟨_, _, rfl, by rfl, b6.noref _ _ _ _ Y⟩)
    (fun b9 ch k1 _ k3 _ k5 => A fz b9 _ _ k1 ((ab fz).2 ⟨(S.gl.mono S.f0).1, Fz.le_refl _⟩) k3 ((ac _ _).2 fun b c k I hk => by
      grind) k5)
  refine ⟨l, [{ target := .collected w.heap.size, args := #[] }], w1, { target := .fn (.func gf) cs, args := #[.func (.yield l) #[] #[]] }, w1, gf, #[.func (.yield l) #[] #[]] ++ cs, w1, ?_⟩
  refine ⟨?_, ?_, ?_, ?_, ?_, ?_⟩
  · grind [run_enterLoop_outer]
  · simp only [resolve, bh]
    simp [go_sem]
  · exact fun _ _ => trivial
  · grind [invoke]
  · simp [Fence.wide]
  · refine aOB.2 ?_
    refine aq.mono ?_
    rintro e w' ⟨v, fz', ρ', rfl, bj, _⟩
    have bk : ((((s.view.setB 1998 (.hid w.heap.size (.deferred (some [])))).setB 1999 (.hid l (.loop R))).setBs (J E))).hp 1999 = some (.hid l (.loop (if E <= m then R else Loop.left R (some U)))) := by
      rw [qY, a6, if_pos rfl]
    obtain ⟨_, ca⟩ := bj.hid bk
    have G := run_endLoop (P := P) ca (by grind)
    obtain ⟨X, hX⟩ : ∃ X : Obj, X = .loop { (if E <= m then R else Loop.left R (some U)) with state := .exhausted } := ⟨_, rfl⟩
    rw [<- hX] at G
    have cb := bj.setHid X bk
    have cc := cb.rdf C.rd (df := [{ target := .collected w.heap.size, args := #[] }]) (a' := { a with defers := [{ target := .collected w.heap.size, args := #[] }] ++ a.defers }) rfl (by rw [show a.defers = [] from S.df.trans bw]; rfl)
    have cd : ∀ (V4 : View) (O : Obj), (∀ t, V4.tm t = s.view.tm t) -> (∀ b, V4.hp b = if b = 1999 then some (.hid l O) else if b = 1998 then some (dB w.heap.size) else match lk (B E) b with | some k => some k | none => s.view.hp b) ->
        V4 = (((s.setB 1998 (dB w.heap.size)).setBs (B E)).setB 1999 (.hid l O)).view := by
      intro V4 O h1 h2
      rw [jC, xV, jC]
      refine View.ext (fun t => ?_) (fun b => ?_)
      · grind [View.setB, setBs_tm]
      · rw [h2]
        simp only [View.setB, qY]
        grind
    have hV := cd ((((s.view.setB 1998 (.hid w.heap.size (.deferred (some [])))).setB 1999 (.hid l (.loop R))).setBs (J E)).setB 1999 (.hid l X)) X (fun t => by simp [View.setB, setBs_tm]) (fun b => by
      simp only [View.setB, qY, a6]
      grind)
    have bl : Sim (Mk C w.heap.size) (((s.setB 1998 (dB w.heap.size)).setBs (B E)).setB 1999 (.hid l X)).view
        { a with defers := [{ target := .collected w.heap.size, args := #[] }] ++ a.defers } (w'.putObj l X) := ⟨fz', ρ', hV ▸ cc⟩
    have bm : (((s.setB 1998 (dB w.heap.size)).setBs (B E)).setB 1999 (.hid l X)).view.hp 1998 = some (dB w.heap.size) := by
      rw [jC, xV, jC]
      simp [View.setB, qY, a2 E _ a3]
    by_cases bn : m < xs.length
    · have ar : E = m + 1 := by rw [bg, if_pos bn]
      subst ar
      have K : (if m + 1 <= m then R else Loop.left R (some U)).pending = some U := by rw [if_neg (by omega)]
      rw [K] at G
      refine ⟨_, _, G, ?_⟩
      have hq := aj w.heap.size l X bn
      cases jx <;> simp only [aSS, Option.some.injEq, reduceCtorEq] at af <;> subst af
      · exact wpIn_exit ⟨_, _, bm, bl, hq⟩
      grind [wpIn_ret]
    · have ar : E = m := by simp [*]
      subst ar
      have K : (if E <= E then R else Loop.left R (some U)).pending = none := by grind
      rw [K] at G
      exact ⟨_, _, G, _, _, bm, bl, ai w.heap.size l _ (by omega)⟩
theorem AWpM.block {id:Nat} {c:Code} {Q:Nat->Exit->AS->Prop} {s:AS} (h:AWpM P C c (fun D=>bEN id (Q D)) s):AWpM P C (.block id c) Q s:=by intro a w o;refine wpIn_block (wpIn_mono (h a w o) fun e a' w' ⟨D,s',G,h1,A⟩=>?_);cases e with|exit E=>simp only[Exit.inBlock,bEN]at A|-;grind|_=>assumption
theorem AWpM.seq1 {x y:Code} {Q:Nat->Exit->AS->Prop} {s:AS} (h:AWp P C x (fun e s'=>e=.normal/\AWpM P C y Q s') s):AWpM P C (.seq x y) Q s:=by intro a w o;refine wpIn_seq (wpIn_mono (h a w o) ?_);rintro e a' w' ⟨s',h1,rfl,A⟩;exact A a' w' h1
theorem AWpM.seq2 {x y:Code} {Q:Nat->Exit->AS->Prop} {s:AS} (h:AWpM P C x (fun D e s'=>match e with| .normal=>AWp P (Mk C D) y (fun e o=>o.view.hp 1998=some (dB D)/\Q D e o) s'|e=>Q D e s') s):AWpM P C (.seq x y) Q s:=by intro a w A;refine wpIn_seq (wpIn_mono (h a w A) fun e a' w' ⟨D,s',K,h1,E⟩=>?_);cases e with|normal=>exact wpIn_mono (E a' w' h1) fun e a2 L ⟨s2,G,I,J⟩=>⟨D,s2,I,G,J⟩|_=>assumption
def AWpR (P:Program) (C:Ctx) (c:Code) (Q:Exit->AS->Prop) (s:AS):Prop:=
 ∀ (a:Act) (w:World),Sim C s.view a w->c.wpIn (fen C) 0 P (fun e a' w'=>∃s':AS,(Sim C s'.view a' w'/\Q e s')\/ ∃D,s'.view.hp 1998=some (dB D)/\Sim (Mk C D) s'.view a' w'/\Q e (s'.setB 1998 (.hid D (.deferred none)))) a w
theorem AWpR.ofM {c:Code} {Q:Exit->AS->Prop} {s:AS} (h:AWpM P C c (fun D e s'=>Q e (s'.setB 1998 (.hid D (.deferred none)))) s):AWpR P C c Q s:=
 fun a w o=>wpIn_mono (h a w o) fun _ _ _ ⟨D,s',A,h1,E⟩=>⟨s',.inr ⟨D,A,h1,E⟩⟩
theorem AWpR.of {c:Code} {Q:Exit->AS->Prop} {s:AS} (h:AWp P C c Q s):AWpR P C c Q s:=
 fun a w o=>wpIn_mono (h a w o) fun _ _ _ ⟨s',h1,A⟩=>⟨s',.inl ⟨h1,A⟩⟩
theorem AWpR.seq {x y:Code} {Q:Exit->AS->Prop} {s:AS} (h:AWp P C x (fun e s'=>match e with| .normal=>AWpR P C y Q s'|e=>Q e s') s):AWpR P C (.seq x y) Q s:=by intro a w A;refine wpIn_seq (wpIn_mono (h a w A) fun e a' w' ⟨s',h1,o⟩=>?_);cases e with|normal=>exact o a' w' h1|_=>exact⟨s',.inl ⟨h1,o⟩⟩
theorem ConM.of_codeR {f:FuncId} {fn:Func} {c:Code} {H H':List (Nat×Blk)} {ts:List AV} {r:AV} (hf:P.funcs[f]? =some fn) (hn:(fn.name== "runtime.NumGoroutine")=false) (hb:fn.body=some c) (hl:ts.length<=fn.ntmps) (hN:fn.ntmps<=1000) (hH:∀b k,lk H b=some k->1000<=b/\b<2000) (L:∀b k,lk H b=some k-> ∃k',lk H' b=some k') (hr:aG r=false) (h:∀C:Ctx,C.N=fn.ntmps->C.rd=none/\C.df=[]->(∀b,lk H b=none->C.ρ0 b=none)->AWpR P C c (fun e s=>(e=.normal\/e=.ret)/\bSY P fn.results.toList r H' s) {tm:=kF 0 (ts.map dem),hp:=H}):ConM P f H ts r H':=by
 refine⟨⟨fn,hf,hn,by simp[*]⟩,hr,fun fz ρ w vs ad ae A af M=>?_⟩;have ap:vs.size=ts.length:=by simpa using M.len
 refine(callsIn_wide (n:=0)).1 (callsIn_of_wp_marks hf hb trivial ?_);have K:=yD (a:={tmps:=vs++Array.replicate (fn.ntmps-vs.size) undef,defers:=[]}) (V:=({tm:=kF 0 (ts.map dem),hp:=H}:AS).view) ad ae A af hN hH rfl (by simp[*]) (fun t=>(aCV M t).1) (fun t=>(aCV (n:=0) M t).2) (fun _=>rfl);refine wpIn_mono (F:=Fence.wide) (h (Ctx.startM w fz ρ H fn.ntmps) rfl ⟨rfl,rfl⟩ (fun b hb=>A.dom b hb) _ w ⟨fz,ρ,K⟩) ?_;rintro e a' w' ⟨aq,Z⟩;have key:(e=.normal\/e=.ret)/\LeavesInM Fence.wide 0 P fn a'.tmps (cHM fz ρ w (lk H) r (lk H')) a'.defers .returning w':=by rcases Z with⟨⟨fz',aa,o⟩,he,⟨l,E,O⟩,S,G⟩|⟨D,hD,⟨fz',aa,o⟩,he,⟨l,E,O⟩,S,G⟩;{obtain⟨v,U,I⟩:=uN o E;obtain⟨ρ',V',Z,J,W⟩:=o.toH G S (O.holds I);have hR:=sZ A L Z J W;rw[show a'.defers=[]from o.df];exact⟨he,v,U,v,fz',ρ',rfl,hR⟩};{rw[show a'.defers=[{target:=.collected D,args:=#[]}]from o.df];obtain⟨_,ah⟩:=o.hid hD;refine⟨he,by simp,.inl ⟨D,_,rfl,run_takeDeferred ah,?_⟩⟩;have Y:=o.setHid (.deferred none) hD;rw[<-jC]at Y;obtain⟨v,U,I⟩:=uN Y E;have ai:=Y.rdf none (df:=[]) (a':={a' with defers:=[]}) rfl rfl;obtain⟨ρ',V',Z,J,W⟩:=ai.toH G S (O.holds I);have hR:=sZ A L Z J W;exact⟨v,U,v,fz',ρ',rfl,hR⟩}
 obtain⟨rfl|rfl,key⟩:=key;{exact key};{exact key}
theorem Con.ofM {f:FuncId} {ts:List AV} {r:AV} (h:ConM P f [] ts r []):Con P f ts r:=by
 obtain⟨he,G,h⟩:=h;refine⟨he,fun fz w vs o A D=>?_⟩;have I:∀c,¬rP bT w (lk ([]:List (Nat×Blk))) c:=by rintro c (⟨b,E⟩|⟨p,g,n,cap,J,_⟩);{cases E};{cases p<;>simp[View.at,hpV,lk,aG]at J}
 refine(h fz bT w vs o A ⟨fun b k hk=>(by simp_all),fun _ _=>rfl,fun b W c E=>(by cases E),fun p e wd rows hp=>?_,fun p q hp=>?_⟩ (fun b c k _ hk=>by simp_all) D).mono ?_;{cases p<;>simp[View.at,hpV,lk]at hp};{cases p<;>simp[View.at,hpV,lk,aG]at hp};rintro e w' ⟨v,fz',ρ',rfl,h1,K,L,M,O,_,_,_,S⟩;refine⟨v,fz',rfl,⟨h1.os,h1.tape,h1.output,h1.size,fun k hk=>h1.block k hk (I k)⟩,K,L,fun c U=>M c U (I c),?_,fun el wd rows e=>by rw[e]at G;cases G⟩;rwa [show ρ'=bT from funext fun b=>O.dom b rfl]at S
end Go.Aw
end
section
namespace Go.Aw
@[simp] theorem cRV {α:Type} (l:List α):Array.mk l=l.toArray:=rfl
@[simp] theorem cNL:ByteArray.empty=⟨#[]⟩:=rfl
def cGM:Nat->Nat->List Bool
 |0,_=>[]
 |n+1,k=>(k% 2==1)::cGM n (k/2)
def aDK (k:Nat):Code->Option (Array Oper)
 | .seq a b=>match aDK k a with|some x=>some x|none=>aDK k b
 | .region id ops _=>if id=k then some ops else none
 | .cond _ a b=>match aDK k a with|some x=>some x|none=>aDK k b
 | .block _ a=>aDK k a
 | .loop a=>aDK k a
 | .scope a=>aDK k a
 | .rangeFunc _ _ a b=>match aDK k a with|some x=>some x|none=>aDK k b
 |_=>none
def hU (f:Func) (k:Nat):Array Oper:=match f.body with|some c=>(match aDK k c with|some x=>x|none=>#[])|none=>#[]
def yA (P:Program) (f:Func):List (Nat×Nat×List Nat)->Option (List (List ROp))
 |[]=>some []
 |(k,o,_)::r=>match lN P (hU f k) (cGM (hU f k).size o) (hU f k).toList,yA P f r with
  |some l,some A=>some (l::A)
  |_,_=>none
structure FnT (P:Program) (f:Func) where
 tab:List (Nat×Nat×List Nat)
 L:List (List ROp)
 ok:yA P f tab=some L
theorem kG {P:Program} {f:Func}:∀ {tab:List (Nat×Nat×List Nat)} {o:List (List ROp)},yA P f tab=some o-> ∀ {i k A:Nat} {live:List Nat} {L:List ROp},tab[i]? =some (k,A,live)->o[i]? =some L-> lN P (hU f k) (cGM (hU f k).size A) (hU f k).toList=some L
 |[],_,_,i,_,_,_,_,h,_=>by grind
 |(k,A,live)::r,o,h,i,K,I,D,L,h1,E=>by simp only[yA]at h;split at h;{rename_i l M J G;cases h;cases i with|zero=>simp at h1 E;obtain⟨rfl,rfl,rfl⟩:=h1;subst E;exact J|succ i=>exact kG G (i:=i) (by simpa using h1) (by simpa using E)};{cases h}
variable [GL]
variable {P:Program} {C:Ctx} {ops:Array Oper} {f:Func}
theorem AWp.gx {id k o:Nat} {live:List Nat} {Q:Exit->AS->Prop} {s:AS} {L:List ROp} (G:FnT P f) (I:C.N=f.ntmps) (i:Nat) (R:List Res) (h:∀K:AS->Prop,(∀s',Q .normal s'->K s')->kW P L (cT L R) s [] [] (fun s' _=>K (iO live s'))) (h1:G.tab[i]? =some (k,o,live):=by rfl) (A:G.L[i]? =some L:=by rfl) (D:hU f k=ops:=by kernel_rfl) (E:fZ f.ntmps L=true:=by kernel_rfl):AWp P C (.region id ops false) Q s:=by subst D;exact AWp.regK0 live _ L R (kG G.ok h1 A) (by simp[*]) h
theorem AWp.go {id k D:Nat} {live:List Nat} {Q:Exit->AS->Prop} {s s':AS} {L:List ROp} (G:FnT P f) (M:C.N=f.ntmps) (i:Nat) (h:Q .normal s') (h1:G.tab[i]? =some (k,D,live):=by rfl) (E:G.L[i]? =some L:=by rfl) (I:hU f k=ops:=by kernel_rfl) (J:fZ f.ntmps L=true:=by kernel_rfl) (o:∀K:AS->Prop,K s'->kW P L (cT L []) s [] [] (fun s' _=>K (iO live s')):=by
 (intro K A;simp(maxSteps:=2000000);(repeat refine⟨by first|omega|(intros;omega)|assumption|(intros;exact aQB (by assumption)),?_⟩);exact A)):AWp P C (.region id ops false) Q s:=by
 subst I
 exact AWp.regK0 live _ L [] (kG G.ok h1 E) (by simp[*]) fun K A=>o K (A _ h)
theorem AWp.gxD {id k E:Nat} {live:List Nat} {Q:Exit->AS->Prop} {s:AS} {L:List ROp} (G:FnT P f) (S:C.N=f.ntmps) (i:Nat) (A:List (List Nat)) (R:List Res) (h:∀K:AS->Prop,(∀s',Q .normal s'->K s')->kW P L (cT L R) s [] [] (fun s' I=>jH A I 0=true/\K (iO live s'))) (h1:G.tab[i]? =some (k,E,live):=by rfl) (J:G.L[i]? =some L:=by rfl) (M:hU f k=ops:=by kernel_rfl) (O:fZ f.ntmps L=true:=by kernel_rfl) (o:uB L 0=true:=by kernel_rfl) (D:zT A L A=true:=by kernel_rfl) (hm:P.follows .mixedOrders=true:=by kernel_rfl):AWp P C (.region id ops true) Q s:=by subst M;exact AWp.regKL hm A live _ L R (kG G.ok h1 J) (by simp[*]) o D h
theorem AWp.goD {id k M:Nat} {live:List Nat} {Q:Exit->AS->Prop} {s s':AS} {L:List ROp} (G:FnT P f) (W:C.N=f.ntmps) (i:Nat) (D:List (List Nat)) (h:Q .normal s') (h1:G.tab[i]? =some (k,M,live):=by rfl) (O:G.L[i]? =some L:=by rfl) (S:hU f k=ops:=by kernel_rfl) (U:fZ f.ntmps L=true:=by kernel_rfl) (o:uB L 0=true:=by kernel_rfl) (E:zT D L D=true:=by kernel_rfl) (hm:P.follows .mixedOrders=true:=by kernel_rfl) (A:∀K:AS->Prop,K s'->kW P L (cT L []) s [] [] (fun s' I=>jH D I 0=true/\K (iO live s')):=by
 (intro K J;simp(maxSteps:=2000000);(repeat refine⟨by first|(show jH _ _ _=true;kernel_rfl)|omega|(intros;omega)|assumption|(intros;exact aQB (by assumption)),?_⟩);exact J)):AWp P C (.region id ops true) Q s:=by
 subst S
 exact AWp.regKL hm D live _ L [] (kG G.ok h1 O) (by simp[*]) o E fun K J=>A K (J _ h)
theorem AWp.cnd {x:Operand} {c d:Code} {Q:Exit->AS->Prop} {s:AS} {b:Bool} (o:b=true->AWp P C c Q s) (A:b=false->AWp P C d Q s) (D:s.view.ev x=.val (.bool b):=by rfl):AWp P C (.cond x c d) Q s:=AWp.cond b D o A
theorem Con.oc {f:FuncId} {fn:Func} {c:Code} {ts:List AV} {r:AV} (o:P.funcs[f]? =some fn) (h:∀C:Ctx,C.N=fn.ntmps->(∀c,C.Mu c=false)->AWp P C c (fun e s=>(e=.normal\/e=.ret)/\Ends P fn.results.toList r s) (AS.start ts)) (A:(fn.name== "runtime.NumGoroutine")=false:=by kernel_rfl) (D:fn.body=some c:=by rfl) (E:ts.length<=fn.ntmps/\fn.ntmps<=1000:=by exact⟨Nat.le_of_ble_eq_true rfl,Nat.le_of_ble_eq_true rfl⟩):Con P f ts r:=Con.of_code o A D E h
end Go.Aw
end
section
namespace Go.Aw
variable [GL]
variable {P:Program} {C:Ctx} {V:View} {a:Act} {w:World} {fz:Fz} {ρ:Ren} {o:Oper} {Q:Exit->Act->World->Prop}
mutual
def shp (q:Value->Bool):AV->Bool
 | .agg l=>aGP q l
 | .tup l=>aGP q l
 | .rd _ rows=>aOM q rows
 | .fx _ rows=>aOM q rows
 | .own _ _ rows=>aOM q rows
 | .elt _ rows _ _=>aOM q rows
 | .rmap _ vs=>aGP q vs
 | .clo _ A=>aGP q A
 | .ifc _ x=>shp q x
 |_=>true
def aGP (q:Value->Bool):List AV->Bool
 |[]=>true
 |x::xs=>shp q x&&aGP q xs
def aOM (q:Value->Bool):List (List AV)->Bool
 |[]=>true
 |r::A=>(r.any (fun x=>match x with| .val v=>q v|_=>false)&&aGP q r)&&aOM q A
end
def Fz.away (fz:Fz) (g:Nat):Fz:={fz with cell:=fun b o=>if b=g then none else fz.cell b o}
theorem Fz.away_le (fz:Fz) (g:Nat):(fz.away g).le fz:=by refine⟨fun b o v h=>?_,fun b o h=>h⟩;simp_all [Fz.away]
mutual
theorem Holds.away {q:Value->Bool} {g:Nat} (D:∀o v,fz.cell g o=some v->q v=false):∀ (x:AV) (ρ:Ren) (v:Value),shp q x=true->Holds fz x ρ v->Holds (fz.away g) x ρ v
 | .unk,_,_,_,_=>by assumption
 | .val u,_,_,_,h=>by assumption
 | .agg l,ρ,v,A,h=>by (simp only[Holds]at h|-;simp only[shp]at A;obtain⟨cs,e,h⟩:=h;exact⟨cs,e,HoldsL.away D l ρ _ A h⟩)| .tup l,ρ,v,A,h=>by (simp only[Holds]at h|-;simp only[shp]at A;obtain⟨cs,e,h⟩:=h;exact⟨cs,e,HoldsL.away D l ρ _ A h⟩)| .rd w rows,ρ,v,A,h=>by (simp only[Holds]at h|-;simp only[shp]at A;obtain⟨a,c,e,l,h⟩:=h;exact⟨a,c,e,l,h.imp id fun⟨b,o,e,h⟩=>⟨b,o,e,HoldsR.away D rows w b o A h⟩⟩)| .fx w rows,ρ,v,A,h=>by (simp only[Holds]at h|-;simp only[shp]at A;obtain⟨a,e,h⟩:=h;exact⟨a,e,h.imp id fun⟨b,o,e,h⟩=>⟨b,o,e,HoldsR.away D rows w b o A h⟩⟩)| .own _ w rows,ρ,v,A,h=>by (simp only[Holds]at h|-;simp only[shp]at A;obtain⟨a,c,e,l,h⟩:=h;exact⟨a,c,e,l,h.imp id fun⟨b,o,e,h⟩=>⟨b,o,e,HoldsR.away D rows w b o A h⟩⟩)| .elt w rows i k,ρ,v,A,h=>by simp only[Holds]at h|-;simp only[shp]at A;obtain⟨b,o,e,h⟩:=h;exact⟨b,o,e,HoldsR.away D rows w b o A h⟩
 | .ptr b off,ρ,v,_,h=>by assumption
 | .vec b _ off n cap,ρ,v,_,h=>by assumption
 | .mapr b,ρ,v,_,h=>by assumption
 | .rmap ks vs,ρ,v,A,h=>by simp only[Holds]at h|-;simp only[shp]at A;exact h.imp id fun⟨c,es,clock,e,G,hk,I⟩=>⟨c,es,clock,e,G,hk,HoldsL.away D vs bT _ A I⟩
 | .kset ks u,ρ,v,_,h=>by assumption
 | .clo fn E,ρ,v,A,h=>by (simp only[Holds]at h|-;simp only[shp]at A;obtain⟨cs,e,h⟩:=h;exact⟨cs,e,HoldsL.away D E ρ _ A h⟩)| .ifc t x,ρ,v,A,h=>by simp only[Holds]at h|-;simp only[shp]at A;obtain⟨u,e,h⟩:=h;exact⟨u,e,Holds.away D x ρ _ A h⟩
theorem HoldsL.away {q:Value->Bool} {g:Nat} (D:∀o v,fz.cell g o=some v->q v=false):∀ (l:List AV) (ρ:Ren) (vs:List Value),aGP q l=true->HoldsL fz l ρ vs->HoldsL (fz.away g) l ρ vs
 |[],_,_,_,h=>by assumption
 |x::xs,ρ,vs,A,h=>by simp only[HoldsL]at h|-;simp only[aGP,Bool.and_eq_true]at A;obtain⟨v,r,e,h1,E⟩:=h;exact⟨v,r,e,Holds.away D x ρ v A.1 h1,HoldsL.away D xs ρ r A.2 E⟩
theorem HoldsC.away {q:Value->Bool} {g:Nat} (D:∀o v,fz.cell g o=some v->q v=false):∀ (l:List AV) (b o:Nat),b≠g->aGP q l=true->HoldsC fz l b o->HoldsC (fz.away g) l b o
 |[],_,_,_,_,_=>by assumption
 |x::xs,b,o,E,A,h=>by simp only[HoldsC]at h|-;simp only[aGP,Bool.and_eq_true]at A;obtain⟨⟨u,e,o1,h1⟩,G⟩:=h;exact⟨⟨u,by simp_all [Fz.away,if_neg],o1,Holds.away D x bT u A.1 h1⟩,HoldsC.away D xs b (o+1) E A.2 G⟩
theorem HoldsR.away {q:Value->Bool} {g:Nat} (D:∀o v,fz.cell g o=some v->q v=false):∀ (l:List (List AV)) (w b o:Nat),aOM q l=true->HoldsR fz l w b o->HoldsR (fz.away g) l w b o
 |[],_,_,_,_,_=>by assumption
 |r::I,w,b,o,A,h=>by simp only[HoldsR]at h|-;simp only[aOM,Bool.and_eq_true]at A;obtain⟨e,h1,J⟩:=h;have K:b≠g:=(by rintro rfl;obtain⟨x,L,E⟩:=List.any_eq_true.1 A.1.1;obtain⟨i,hi⟩:=List.mem_iff_getElem?.1 L;obtain⟨u,hu,_,G⟩:=h1.get _ _ _ i x hi;cases x<;>simp at E;simp only[Holds]at G;subst G;rw[D _ _ hu]at E;cases E);exact⟨e,HoldsC.away D r b o K A.1.2 h1,HoldsR.away D I w b (o+w) A.2 J⟩
end
def aVP (q:Value->Bool):AV->Bool
 | .own _ _ rows=>rows.all (aGP q)
 |x=>shp q x
def bGN (q:Value->Bool) (l:List AV):Bool:=l.all (aVP q)
def bCC (q:Value->Bool):Blk->Bool
 | .cells _ cs=>bGN q cs
 | .map _ vs=>bGN q vs
 | .mapd _ vs=>bGN q vs
 | .hid _ _=>true
theorem HoldsR.awayNe {q:Value->Bool} {g:Nat} (A:∀o v,fz.cell g o=some v->q v=false):∀ (l:List (List AV)) (w b o:Nat),b≠g->(∀r∈l,aGP q r=true)->HoldsR fz l w b o->HoldsR (fz.away g) l w b o
 |[],_,_,_,_,_,_=>by assumption
 |r::G,w,b,o,D,E,h=>by simp only[HoldsR]at h|-;obtain⟨e,h1,I⟩:=h;exact⟨e,HoldsC.away A r b o D (E r (by simp)) h1,HoldsR.awayNe A G w b (o+w) D (fun r' J=>E r' (by grind)) I⟩
theorem Holds.awayT {q:Value->Bool} {g:Nat} (E:∀o v,fz.cell g o=some v->q v=false) {x:AV} {v:Value} (A:aVP q x=true) (D:aG x=true-> ∀G n c,v=.slice (some G) n c->G.block≠g) (h:Holds fz x ρ v):Holds (fz.away g) x ρ v:=by cases x with|own e w rows=>simp only[Holds]at h|-;obtain⟨a,c,rfl,l,h⟩:=h;simp only[aVP,List.all_eq_true]at A;refine⟨a,c,rfl,l,h.imp id fun⟨b,o,e,I⟩=>⟨b,o,e,?_⟩⟩;subst e;exact HoldsR.awayNe E rows w b o (D rfl _ _ _ rfl) A I|_=>exact Holds.away E _ _ _ (by simpa only[aVP]using A) h
theorem cBD {q:Value->Bool} {l:List AV} (h:bGN q l=true) (j:Nat):aVP q (l.getD j .unk)=true:=by rw[List.getD_eq_getElem?_getD];cases A:l[j]? with|none=>rfl|some x=>exact List.all_eq_true.1 h x (List.mem_of_getElem? A)
theorem cIV {q:Value->Bool} {k:Blk} (h:bCC q k=true) (j:Nat):aVP q (k.at j)=true:=by cases k<;>first|exact cBD h j|rfl
theorem BlkAt.away {g:Nat} {k:Blk} {c:Nat} (H:∀j,j<k.len->Holds fz (k.at j) ρ (cQ w c j)->Holds (fz.away g) (k.at j) ρ (cQ w c j)) (h:BlkAt fz ρ w c k):BlkAt (fz.away g) ρ w c k:=by cases k with|hid l o=>exact h|cells e cs=>obtain⟨cur,h1,I,G⟩:=h;refine⟨cur,h1,HoldsL.of_get _ _ _ I.len fun j x v D E=>?_,G⟩;have J:j<cs.length:=(List.getElem?_eq_some_iff.1 D).1;obtain⟨M,A,O⟩:=I.get _ _ _ j x D;rw[E]at A;cases A;have e1:cQ w c j=v:=(by simp[cQ,h1,Array.getD_eq_getD_getElem?];simp at E;simp[E]);have S:(Blk.cells e cs).at j=x:=(by simp[Blk.at,D]);have:=H j J;simp_all|map ks vs=>obtain⟨es,clock,h1,I,G,K⟩:=h;refine⟨es,clock,h1,I,HoldsL.of_get _ _ _ G.len fun j x v D E=>?_,K⟩;have J:j<vs.length:=(List.getElem?_eq_some_iff.1 D).1;obtain⟨M,A,O⟩:=G.get _ _ _ j x D;rw[E]at A;cases A;have e1:cQ w c j=v:=(by simp[cQ,h1];simp at E;obtain⟨z,L,rfl⟩:=E;simp[L]);have S:(Blk.map ks vs).at j=x:=(by simp[Blk.at,D]);have:=H j J;simp_all|mapd ks vs=>obtain⟨es,clock,h1,I,G,K⟩:=h;refine⟨es,clock,h1,I,HoldsL.of_get _ _ _ G.len fun j x v D E=>?_,K⟩;have J:j<vs.length:=(List.getElem?_eq_some_iff.1 D).1;obtain⟨M,A,O⟩:=G.get _ _ _ j x D;rw[E]at A;cases A;have e1:cQ w c j=v:=(by simp[cQ,h1];simp at E;obtain⟨z,L,rfl⟩:=E;simp[L]);have S:(Blk.mapd ks vs).at j=x:=(by simp[Blk.at,D]);have:=H j J;simp_all
theorem HoldsR.flatten:∀ (rows:List (List AV)) (wd b o:Nat),HoldsR fz rows wd b o->(∀r∈rows,∀x∈r,∃u,x=.val u)-> ∀j (A:j<rows.length*wd),∃u,rows.flatten[j]? =some (.val u)/\fz.cell b (o+j)=some u
 |[],_,_,_,_,_,j,A=>by grind
 |r::I,wd,b,o,h,E,j,A=>by simp only[HoldsR]at h;obtain⟨O,J,K⟩:=h;simp only[List.flatten_cons];by_cases L:j<wd;{obtain⟨x,G⟩:∃x,r[j]? =some x:=⟨_,List.getElem?_eq_getElem (by omega)⟩;obtain⟨u,rfl⟩:=E r (by simp) x (List.mem_of_getElem? G);obtain⟨S,M,_,U⟩:=J.get _ _ _ j _ G;simp_all [Holds,List.getElem?_append_left]};{obtain⟨u,h1,W⟩:=HoldsR.flatten I wd b (o+wd) K (fun r' D=>E r' (by simp[D])) (j-wd) (by simp[Nat.add_mul]at A;omega);grind}
structure Cold (q:Value->Bool) (x:AV):Prop where
 sh:shp q x=true
 nr:noref x=true
 no:aG x=false
 q:∀ (fz:Fz) (ρ:Ren) (v:Value),Holds fz x ρ v->q v=false
theorem Cold.val {q:Value->Bool} {u:Value} (h:q u=false):Cold q (.val u):=⟨rfl,rfl,rfl,fun fz ρ v A=>by simp_all [Holds]⟩
theorem Cold.rd {q:Value->Bool} {w:Nat} {rows:List (List AV)} (h:∀a n c,q (.slice a n c)=false) (A:aOM q rows=true):Cold q (.rd w rows):=⟨by assumption,rfl,rfl,fun fz ρ v D=>by
 grind [Holds]⟩
theorem HoldsR.flat2:∀ (rows:List (List AV)) (wd b o:Nat),HoldsR fz rows wd b o-> ∀j (A:j<rows.length*wd),∃x u,rows.flatten[j]? =some x/\fz.cell b (o+j)=some u/\Holds fz x bT u
 |[],_,_,_,_,j,A=>by grind
 |r::D,wd,b,o,h,j,A=>by simp only[HoldsR]at h;obtain⟨L,E,G⟩:=h;simp only[List.flatten_cons];by_cases I:j<wd;{obtain⟨x,J⟩:∃x,r[j]? =some x:=⟨_,List.getElem?_eq_getElem (by omega)⟩;obtain⟨M,K,_,O⟩:=E.get _ _ _ j _ J;grind};{obtain⟨x,u,h1,S,U⟩:=HoldsR.flat2 D wd b (o+wd) G (j-wd) (by simp[Nat.add_mul]at A;omega);grind}
def qB (e:TypeId) (wd cap:Nat) (rows:List (List AV)):Blk:=.cells e (rows.flatten++List.replicate ((cap-rows.length)*wd) .unk)
theorem SimE.putAt (h:SimE C V a w fz ρ) {b j c:Nat} {k:Blk} (hk:V.hp b=some k) (hj:j<k.len) (U:ρ b=some c) {y:AV} (hy:Holds fz y ρ (cQ w c j)) (ho:aG y=false):SimE C (V.setB b (k.set j y)) a w fz ρ:=by
 have ab:∀p,(V.setB b (k.set j y)).at p=if p=.c b j then y else V.at p:=by intro p;have:=View.at_setAt V (.c b j) p y ⟨k,hk,hj⟩;simp_all [View.setAt]
 have G:∀p,aG ((V.setB b (k.set j y)).at p)=true->V.at p=(V.setB b (k.set j y)).at p:=by grind
 refine{h with hp:=fun E k' A=>?_,dom:=fun E D=>?_,tips:=fun p e wd rows hp=>?_,tipinj:=fun p q hp hq g g' n n' c W M O hg=>?_};{simp only[View.setB]at A;by_cases e:E=b;{subst e;simp only[if_true]at A;cases A;obtain⟨W,I,h1,L,h3⟩:=h.hp E k hk;rw[U]at I;cases I;refine⟨c,U,h1,?_,h3⟩;cases k with|hid l o=>exact L|cells e cs=>obtain⟨cur,x1,J,K⟩:=L;refine⟨cur,x1,J.set_same j y fun x v Y Z=>?_,K⟩;simp_all [cQ,Array.getD_eq_getD_getElem?]|map ks vs=>obtain⟨es,clock,x1,J,K,S⟩:=L;refine⟨es,clock,x1,J,K.set_same j y fun x v Y Z=>?_,S⟩;grind [cQ]|mapd ks vs=>obtain⟨es,clock,x1,J,K,S⟩:=L;refine⟨es,clock,x1,J,K.set_same j y fun x v Y Z=>?_,S⟩;grind [cQ]};{simp only[e,if_false]at A;exact h.hp E k' A}};{simp only[View.setB]at D;by_cases e:E=b;{simp_all};{simp only[e,if_false]at D;exact h.dom E D}};{exact h.tips p e wd rows (by rw[G p (by rw[hp];rfl)];exact hp)};{exact h.tipinj p q (by grind) (by grind) g g' n n' c W M O hg}
theorem SimE.thaw (h:SimE C V a w fz ρ) (hM:∀c,C.Mu c=false) (hF:∀c o v,C.fz0.cell c o=some v->c<C.B) {q:Value->Bool} {E A:Nat} {k0:Blk} (L:V.hp E=some k0) {e:TypeId} {wd:Nat} {rows:List (List AV)} (hp:k0.at A=.own e wd rows) (hn:rows≠[]) {d:Nat} (hd:d<C.N) (aj:V.hp d=none) (I:∀r∈rows,∀x∈r,Cold q x) (bc:∀t,aVP q (V.tm t)=true) (bd:∀b k,b≠E->V.hp b=some k->bCC q k=true) (ay:bCC q (k0.set A .unk)=true): ∃cap,rows.length<=cap/\cap<=maxLen/\Sim C ((V.setB d (qB e wd cap rows)).setB E (k0.set A (.vec d wd 0 rows.length cap))) a w:=by
 have aa:V.at (.c E A)=.own e wd rows:=by simp only[View.at,L,Option.map_some,Option.getD_some];exact hp
 have be:=View.hasPl_of_own (V:=V) (p:=.c E A) (by rw[aa];rfl);obtain⟨b5,ae,D⟩:=be;rw[L]at ae;cases ae;obtain⟨c0,ak,bu,al,bv,bw⟩:=h.hp E k0 L;have af:=h.tips _ _ _ _ aa;have ag:bM a w ρ (.c E A)=cQ w c0 A:=by simp[bM,ak]
 have am:Holds fz (.own e wd rows) ρ (cQ w c0 A):=by cases k0 with|hid l o=>simp[Blk.at]at hp|cells e1 cs=>obtain⟨cur,x1,U,x3⟩:=al;have J:cs[A]? =some (.own e wd rows):=(by simp[Blk.len]at D;simp[Blk.at,D]at hp;simp[D,hp]);obtain⟨v,G,O⟩:=U.get _ _ _ A _ J;have:cQ w c0 A=v:=(by simp[cQ,x1,Array.getD_eq_getD_getElem?];simp at G;simp[G]);rw[this];exact O|map ks vs=>obtain⟨es,clock,x1,U,x3,x4⟩:=al;have J:vs[A]? =some (.own e wd rows):=(by simp[Blk.len]at D;simp[Blk.at,D]at hp;simp[D,hp]);obtain⟨v,G,O⟩:=x3.get _ _ _ A _ J;have:cQ w c0 A=v:=(by simp[cQ,x1];simp at G;obtain⟨z,hz,rfl⟩:=G;simp[hz]);rw[this];exact O|mapd ks vs=>obtain⟨es,clock,x1,U,x3,x4⟩:=al;have J:vs[A]? =some (.own e wd rows):=(by simp[Blk.len]at D;simp[Blk.at,D]at hp;simp[D,hp]);obtain⟨v,G,O⟩:=x3.get _ _ _ A _ J;have:cQ w c0 A=v:=(by simp[cQ,x1];simp at G;obtain⟨z,hz,rfl⟩:=G;simp[hz]);rw[this];exact O
 rw[ag]at af;rcases af with⟨_,W⟩|⟨g,cap,cur,x1,U,x3,x4,x5,x6,x7,x8,x9⟩;{exact absurd W hn};have b8:C.B<=g:=by rcases U with U|U;exact U;rw[hM]at U;cases U
 have hR:HoldsR fz rows wd g 0:=by simp only[Holds]at am;obtain⟨ad,ah,ai,_,W⟩:=am;rw[x1]at ai;cases ai;rcases W with rfl|⟨b,oo,W,hR⟩;{exact absurd rfl hn};{cases W;exact hR}
 have ap:=hR.flat2;have hq:∀o v,fz.cell g o=some v->q v=false:=by intro o v G;by_cases ho:rows.length*wd<=o;{rw[x7 o ho]at G;cases G};{obtain⟨x,u,ab,Y,au⟩:=ap o (by omega);rw[Nat.zero_add]at Y;rw[G]at Y;cases Y;obtain⟨r,W,J⟩:=List.mem_flatten.1 (List.mem_of_getElem? ab);exact(I r W x J).q _ _ _ au}
 have av:rows.flatten.length=rows.length*wd:=by have hw:=hR.width;clear ap hq am aa hp hn I x1 x4 x7 hR;induction rows with|nil=>simp|cons r rs ih=>rw[List.flatten_cons,List.length_append,ih (fun r' bg=>hw r' (by simp[bg])),hw r (by simp),List.length_cons,Nat.add_mul];omega
 refine⟨cap,x4,x5,?_⟩;have h1:=h.putAt L D ak (y:=.unk) (by simp only[Holds]) rfl;have bh:∀p,aG ((V.setB E (k0.set A .unk)).at p)=true->p≠ .c E A/\V.at p=(V.setB E (k0.set A .unk)).at p:=by intro p hp;have O:=View.at_setAt V (.c E A) p .unk ⟨k0,L,D⟩;simp only[View.setAt,L]at O;rw[O]at hp|-;split;{rename_i e;rw[if_pos e]at hp;cases hp};{rename_i e;exact⟨e,rfl⟩}
 have Z:∀p,aG ((V.setB E (k0.set A .unk)).at p)=true-> ∀ad n c,bM a w ρ p=.slice (some ad) n c->ad.block≠g:=by intro p hp ad n c hc heq;obtain⟨p1,p2⟩:=bh p hp;refine p1 (h.tipinj p (.c E A) (by rw[p2];exact hp) (by rw[aa];rfl) ad ⟨g,0,none⟩ n rows.length c cap hc (by rw[ag];exact x1) heq)
 have bi:ρ d=none:=h.dom d aj;have hle:=Ren.le_set (c:=g) bi;have a0:E≠d:=by rintro rfl;rw[L]at aj;cases aj
 have h2:SimE C ((V.setB E (k0.set A .unk)).setB d (qB e wd cap rows)) a w (fz.away g) (Ren.set ρ d g):=by
  have key:∀p,aG (((V.setB E (k0.set A .unk)).setB d (qB e wd cap rows)).at p)=true->(V.setB E (k0.set A .unk)).at p=((V.setB E (k0.set A .unk)).setB d (qB e wd cap rows)).at p/\bM a w (Ren.set ρ d g) p=bM a w ρ p:=(by intro p hp;cases p with|t i=>exact⟨rfl,rfl⟩|c b j=>by_cases K:b=d;{subst K;simp only[View.at,View.setB,if_true,Option.map_some,Option.getD_some,qB,Blk.at,List.getD_eq_getElem?_getD]at hp;cases J:(rows.flatten++List.replicate ((cap-rows.length)*wd) AV.unk)[j]? with|none=>rw[J]at hp;cases hp|some x=>rw[J]at hp;rcases List.mem_append.1 (List.mem_of_getElem? J)with hm|hm;{obtain⟨r,W,aw⟩:=List.mem_flatten.1 hm;have:=(I r W x aw).no;rw[show(some x).getD AV.unk=x from rfl]at hp;rw[this]at hp;cases hp};{rw[List.eq_of_mem_replicate hm]at hp;cases hp}};{exact⟨by simp[View.at,View.setB,K],by simp[bM,Ren.set,K]⟩});refine{h1 with
   tm:=fun t=>(Holds.awayT hq (bc t) (fun ho=>Z (.t t) ho) (h1.tm t)).mono (Fz.le_refl _) _ _ _ _ hle,hp:=fun b k hk=>?_,dom:=fun b S=>?_,inj:=fun b b' c S M=>?_,keep:=fun b c c' h3 h4=>?_,br:=fun b c c' h3 h4=>?_,
   fcell:=fun c o v G=>h1.fcell c o v ((Fz.away_le fz g).1 _ _ _ G),fobj:=h1.fobj,f0:=⟨fun c o v G=>?_,h1.f0.2⟩,f1:=fun c hc hm=>⟨fun o v G=>(h1.f1 c hc hm).1 o v ((Fz.away_le fz g).1 _ _ _ G),(h1.f1 c hc hm).2⟩,
   tips:=fun p e wd rows hp=>?_,tipinj:=fun p q hp hq g g' n n' c c' bk bl hg=>?_}
  {simp only[View.setB]at hk;by_cases K:b=d;{subst K;simp only[if_true]at hk;cases hk;refine⟨g,by simp[Ren.set],U,⟨cur,x3,?_,x6.2⟩,fun o=>by simp[Fz.away],x8⟩;refine HoldsL.of_get _ _ _ ?_ fun i x v J G=>?_;{have bm:=x6.1;simp only[Array.length_toList,List.length_append,List.length_replicate,av,<-Nat.add_mul];rw[bm];congr 1;omega};{by_cases hi:i<rows.length*wd;{rw[List.getElem?_append_left (by omega)]at J;obtain⟨x',u,ab,Y,au⟩:=ap i hi;rw[J]at ab;cases ab;obtain⟨r,W,aw⟩:=List.mem_flatten.1 (List.mem_of_getElem? J);have a2:=I r W x aw;have:=h.fcell _ _ _ Y;simp only[World.cell?,x3,Option.isSome_none,Bool.false_eq_true,if_false,Nat.zero_add]at this;simp at G;rw[G]at this;cases this;exact(Holds.away hq x bT _ a2.sh au).noref _ _ _ _ a2.nr};{rw[List.getElem?_append_right (by omega)]at J;rw[List.eq_of_mem_replicate (List.mem_of_getElem? J)];simp only[Holds]}}};{simp only[K,if_false]at hk;obtain⟨c,y1,y2,y3,y4,y5⟩:=h1.hp b k (by simp only[View.setB];exact hk);refine⟨c,by simp[Ren.set,K,y1],y2,(BlkAt.away (fun j _ O=>?_) y3).mono (Fz.le_refl _) hle (fun _ h=>h),fun o=>?_,y5⟩;{have bn:bCC q k=true:=(by by_cases eb:b=E;{simp only[eb,if_true]at hk;cases hk;exact ay};{simp only[eb,if_false]at hk;exact bd b k eb hk});refine Holds.awayT hq (cIV bn j) (fun ho ad n c' bp=>Z (.c b j) ?_ ad n c' ?_) O;{simp only[View.at,View.setB];rw[hk];exact ho};{simp only[bM,y1];exact bp}};{simp only[Fz.away];split;{rfl};{exact y4 o}}}};{simp only[View.setB]at S;by_cases K:b=d;{subst K;simp at S};{simp only[K,if_false]at S;simp only[Ren.set,K,if_false];exact h1.dom b (by simp only[View.setB];exact S)}};{simp only[Ren.set]at S M;by_cases e1:b=d<;>by_cases e2:b'=d;{rw[e1,e2]};{simp only[e1,e2,if_true,if_false]at S M;cases S;exact absurd M (x9 b')};{simp only[e1,e2,if_true,if_false]at S M;cases M;exact absurd S (x9 b)};{simp only[e1,e2,if_false]at S M;exact h.inj b b' c S M}};{have:=hF _ _ _ G;simp only[Fz.away];rw[if_neg (by omega)];exact h1.f0.1 _ _ _ G};{obtain⟨k1,k2⟩:=key p (by rw[hp];rfl);rw[k2];rcases h1.tips p e wd rows (by rw[k1];exact hp)with⟨z1,z2⟩|⟨g',ah,a3,z1,z2,z3,z4,z5,z6,z7,z8,z9⟩;{exact .inl ⟨z1,z2⟩};{have a4:g'≠g:=Z p (by rw[k1,hp];rfl) _ _ _ z1;refine .inr ⟨g',ah,a3,z1,z2,z3,z4,z5,z6,fun o ho=>?_,z8,fun b=>?_⟩;{simp only[Fz.away,if_neg a4];exact z7 o ho};{simp only[Ren.set];split;{intro O;cases O;exact a4 rfl};{exact z9 b}}}};{obtain⟨k1,k2⟩:=key p hp;obtain⟨k3,k4⟩:=key q hq;exact h1.tipinj p q (by rw[k1];exact hp) (by rw[k3];exact hq) g g' n n' c c' (by rw[<-k2];exact bk) (by rw[<-k4];exact bl) hg};{by_cases K:b=d;{subst K;rw[h.hi b (.inl hd)]at h3;cases h3};{simp only[Ren.set,K,if_false]at h4;exact h.keep b c c' h3 h4}};{by_cases K:b=d;{subst K;rw[h.brd hd]at h3;cases h3};{simp only[Ren.set,K,if_false]at h4;exact h.br b c c' h3 h4}}
 have h3:=h2.putAt (b:=E) (j:=A) (c:=c0) (k:=k0.set A .unk) (by simp[View.setB,a0]) (by cases k0<;>first|(simp[Blk.set,Blk.len]at D;done)|simpa[Blk.set,Blk.len]using D) (by simp[Ren.set,a0,ak]) (y:=.vec d wd 0 rows.length cap) (by rw[x1];simp only[Holds];exact⟨g,by simp[Ren.set],rfl⟩) rfl
 refine⟨fz.away g,Ren.set ρ d g,?_⟩;{have G:(V.setB d (qB e wd cap rows)).setB E (k0.set A (.vec d wd 0 rows.length cap))=((V.setB E (k0.set A .unk)).setB d (qB e wd cap rows)).setB E ((k0.set A .unk).set A (.vec d wd 0 rows.length cap)):=(by refine View.ext (fun t=>rfl) (fun b=>?_);simp only[View.setB];by_cases e1:b=E;{simp only[e1,if_true];cases k0<;>simp[Blk.set]};{simp only[e1,if_false]});rw[G];exact h3}
def AS.shp (q:Value->Bool) (s:AS):Bool:=s.tm.all (fun x=>aVP q x.2)&&s.hp.all (fun x=>bCC q x.2)
theorem bDB {α:Type}:∀ {l:List (Nat×α)} {k:Nat} {x:α},lk l k=some x->(k,x)∈l|(j,y)::l,k,x,h=>by simp only[lk]at h;split at h;{simp_all};{exact List.mem_cons_of_mem _ (bDB h)}
theorem AWp.thaw {c:Code} {Q:Exit->AS->Prop} {s:AS} (U:∀c,C.Mu c=false) (W:∀c o v,C.fz0.cell c o=some v->c<C.B) (q:Value->Bool) (D E d:Nat) {k0:Blk} (J:lk s.hp D=some k0) {e:TypeId} {wd:Nat} {rows:List (List AV)} (hp:k0.at E=.own e wd rows) (Y:rows≠[]) (Z:d<C.N) (K:lk s.hp d=none) (A:∀r∈rows,∀x∈r,Cold q x) (L:(s.setB D (k0.set E .unk)).shp q=true) (h:∀cap,rows.length<=cap->cap<=maxLen->AWp P C c Q ((s.setB d (qB e wd cap rows)).setB D (k0.set E (.vec d wd 0 rows.length cap)))):AWp P C c Q s:=by
 intro a w ⟨fz,ρ,G⟩;simp only[AS.shp,Bool.and_eq_true,List.all_eq_true]at L;have I:∀b k,lk (s.setB D (k0.set E .unk)).hp b=some k->bCC q k=true:=fun b k hk=>L.2 (b,k) (bDB hk);have M:∀t,aVP q (s.view.tm t)=true:=fun t=>by simp only[AS.view];cases hx:lk s.tm t with|none=>rfl|some x=>exact L.1 (t,x) (bDB hx)
 have O:∀b k,b≠D->s.view.hp b=some k->bCC q k=true:=fun b k hb hk=>by refine I b k ?_;simp only[AS.setB,pI,if_neg hb];exact hk
 have S:bCC q (k0.set E .unk)=true:=by refine I D _ ?_;simp only[AS.setB,pI,if_true]
 obtain⟨cap,h1,h2,h3⟩:=G.thaw U W J hp Y Z K A M O S;refine h cap h1 h2 a w ?_;grind [jC]
end Go.Aw
end
