/- Stores; maps. -/
import Derived.Test.YtackjebfmbnkbaaGreatDoorP02
import Derived.WalkSpells
set_option linter.unusedSimpArgs false
set_option linter.unusedVariables false
set_option linter.unusedSectionVars false
section
namespace Go.Aw
variable [GL]
variable {P:Program} {C:Ctx} {V:View} {a:Act} {w:World} {fz:Fz} {ρ:Ren} {o:Oper} {Q:Exit->Act->World->Prop}
theorem aAE (w:World) (g:Nat) (cs:Array Value):(w.setRow g cs).heap.size=w.heap.size:=by simp
theorem aGL {t:TypeId} {n:Nat} (G:qD P t=some n) {c off:Nat} {cur:Array Value} {e:TypeId} (D:w.heap[c]? =some (.cells cur e (0,0))) {v:Value} (E:v.cells.size=n) (A:off+n<=cur.size) (h1:∀u∈v.cells.toList,u.oneCell'=true): (storeVar t ⟨c,off,none⟩ v).run P w=.ok () (w.setRow c (cur.toList.take off++v.cells.toList++cur.toList.drop (off+n)).toArray):=by have:=run_storeCells_at P c off e v.cells.toList 0 cur w D (by simp[E];omega) h1;simp_all [Nat.add_zero,Array.length_toList,storeVar,qW]
theorem SimE.storeAt (h:SimE C V a w fz ρ) {b c off:Nat} {e:TypeId} {cs ns cs':List AV} (W:V.hp b=some (.cells e cs)) (K:ρ b=some c) {cur:Array Value} (A:w.heap[c]? =some (.cells cur e (0,0))) (L:HoldsL fz cs ρ cur.toList) (E:∀u∈cur.toList,u.oneCell'=true) {v:Value} (G:HoldsL fz ns ρ v.cells.toList) (h1:∀u∈v.cells.toList,u.oneCell'=true) {n:Nat} (D:aAD cs off n (ns.map Aw.dem)=some cs'): v.cells.size=n/\off+n<=cur.size/\SimE C (V.setB b (.cells e cs')) a (w.setRow c (cur.toList.take off++v.cells.toList++cur.toList.drop (off+n)).toArray) fz ρ:=by simp only[aAD]at D;split at D;{rename_i hlen;cases D;have M:=G.len;have O:=L.len;simp only[List.length_map]at hlen;have S:v.cells.size=n:=(by simpa using M.trans hlen.1);have U:cur.size=cs.length:=(by simpa using O);refine⟨S,by omega,h.setBlk W K rfl rfl ⟨rfl,fun _=>Nat.le_refl _⟩ (aAE _ _ _) (fun i hi=>setRow_other w c i _ hi) ?_ ?_⟩;{refine⟨_,setRow_heap w c cur _ e _ A,by simpa using((L.take _).append G.dem).append (L.drop _),?_⟩;intro u hu;simp only[List.mem_append]at hu;rcases hu with(hu|hu)|hu;{exact E u (List.mem_of_mem_take hu)};{exact h1 u hu};{exact E u (List.mem_of_mem_drop hu)}};{intro j J;have I:=setRow_heap w c cur (cur.toList.take off++v.cells.toList++cur.toList.drop (off+n)).toArray e (0,0) A;have key:(cs.take off++ns.map Aw.dem++cs.drop (off+n))[j]? =cs[j]? /\(cur.toList.take off++v.cells.toList++cur.toList.drop (off+n))[j]? =cur.toList[j]?:=(by by_cases Y:j<off;{rw[List.append_assoc,List.append_assoc,List.getElem?_append_left (by simp;omega),List.getElem?_append_left (by simp;omega)];simp[Y]};{by_cases Z:j<off+n;{exfalso;simp only[Blk.at,List.getD_eq_getElem?_getD]at J;rw[List.append_assoc,List.getElem?_append_right (by simp;omega),List.getElem?_append_left (by simp;omega)]at J;rw[<-List.getD_eq_getElem?_getD,aNF]at J;cases J};{rw[List.getElem?_append_right (by simp;omega),List.getElem?_append_right (by simp;omega)];simp only[List.getElem?_drop];constructor<;>(congr 1;simp;omega)}});refine⟨by simp only[Blk.at,List.getD_eq_getElem?_getD,key.1],?_⟩;simp only[cQ,I,A,Array.getD_eq_getD_getElem?,List.getElem?_toArray];rw[key.2,Array.getElem?_toList]}};{cases D}
theorem bGE (h:SimE C V a w fz ρ) {t:TypeId} {x J:Operand} (ag:o.op=.store t x J) {n:Nat} (hn:qD P t=some n) {tk:Bool} {g:Nat->Option Blk} (hg:∀b k,g b=some k->V.hp b=some k) {ef:Eff} (he:bEV n tk J g [V.ev x,V.ev J]=some ef) (hd:∀i,o.dst=some i->i<C.N) (aw:∀t,J=.tmp t->o.dst≠some t):cI P C V a w o ef:=by
 have hx:=h.ev x;have hv:=h.ev J;unfold bEV at he;split at he
 ·rename_i b off vv heq;simp only[List.cons.injEq,and_true]at heq;obtain⟨e1,e2⟩:=heq;rw[e1]at hx;simp only[Holds]at hx;obtain⟨c,K,aj⟩:=hx;split at he
  ·rename_i e cs ak;have hb:=hg _ _ ak;obtain⟨c',W,_,⟨cur,D,hl,L⟩,_⟩:=h.hp _ _ hb;rw[K]at W;cases W;have fin:∀w',(storeVar t ⟨c,off,none⟩ (a.eval J)).run P w=.ok () w'->(execOp a.eval o).run P w=.ok .skip w':=(by intro w' hr;simp[execOp,ag,Instr.storeAt,Instr.sureAddr,aj,hr]);have plain:aPL n b off e cs (V.ev J)=some ef->cI P C V a w o ef:=(by intro he;simp only[aPL]at he;split at he;{rename_i ns M;split at he;{rename_i cs' O;cases he;obtain⟨S,Y⟩:=vY hv M;obtain⟨s1,s2,s3⟩:=h.storeAt hb K D hl L S Y O;intro Q;refine xU (fin _ (aGL hn D s1 s2 Y)) ⟨fz,ρ,s3.putO hd (by simp only[Holds]) rfl⟩};{cases he}};{cases he});split at he
   ·rename_i e' wd rows G Z;have an:J=.tmp G:=(by cases J<;>simp[bFX]at Z;rw[Z]);subst an
    ·split at he
     ·rename_i hc;obtain⟨S,I⟩:=hc;cases he;subst S;have U:V.tm G=.own e' wd rows:=(by simpa[View.ev]using e2);rw[e2]at hv;have E:=hv.one rfl;have A:=aIU E;have O:aAD cs off 1 ([AV.own e' wd rows].map Aw.dem)=some (cs.set off (.rd wd rows)):=(by simp only[aAD,List.map_cons,List.map_nil,Aw.dem,List.length_cons,List.length_nil];rw[if_pos (by simp;omega)];rw[List.set_eq_take_append_cons_drop,if_pos I];simp);have M:HoldsL fz [AV.own e' wd rows] ρ (a.eval (.tmp G)).cells.toList:=(by rw[A];simp only[HoldsL];exact⟨_,[],rfl,hv,rfl⟩);obtain⟨s1,s2,s3⟩:=h.storeAt hb K D hl L M (by rw[A];simpa using E) O;intro Q;refine xU (fin _ (aGL hn D s1 s2 (by rw[A];simpa using E))) ⟨fz,ρ,?_⟩;have aa:=setRow_heap w c cur (cur.toList.take off++(a.eval (.tmp G)).cells.toList++cur.toList.drop (off+1)).toArray e (0,0) D;have ab:=s3.move (p:=.t G) (q:=.c b off) (by intro e;cases e) (by simp[View.at,View.setB,U,aG])
       ⟨.cells e (cs.set off (.rd wd rows)),by simp[View.setB],by simpa[Blk.len]using I⟩ (by simp[View.at,View.setB,Blk.at,I,U,Aw.dem])
       (by
        have hm:min off cur.size=off:=by omega
        have ao:(cur.toList.take off++(a.eval (.tmp G)).cells.toList++cur.toList.drop (off+1))[off]? =some (a.eval (.tmp G)):=by
         rw[A,List.append_assoc,List.getElem?_append_right (by simp;omega)]
         simp[hm]
        simp only[bM,K,cQ,aa,Array.getD_eq_getD_getElem?,List.getElem?_toArray,ao]
        simp[Act.eval])
      have ac:((V.setB b (.cells e (cs.set off (.rd wd rows)))).setAt (.t G) (dem ((V.setB b (.cells e (cs.set off (.rd wd rows)))).at (.t G)))).setAt (.c b off) ((V.setB b (.cells e (cs.set off (.rd wd rows)))).at (.t G))=
       (V.setAt (.t G) (dem (V.at (.t G)))).setB b (.cells e (cs.set off (.own e' wd rows))):=by
       simp only[View.setAt,View.at,View.setB,View.put,if_true,U,Blk.set,List.set_set,View.mk.injEq,true_and]
       funext c';split<;>simp_all
      rw[ac]at ab;exact ab.putO hd (by simp only[Holds]) rfl
     {cases he}
   {rw[<-e2]at he;exact plain he}
  {cases he}
 {cases he}
def lI (k:Value):List MapEntry->Nat->Option (Nat×Value)
 |[],_=>none
 |e::es,i=>if dR k e.key then some (i,e.val)else lI k es (i+1)
theorem bLY {D:TypeId} {d:TypeDesc} {E:Nat} (I:P.underlying D=some d) (hk:pX P D=some E) {k x:Value} (A:rH E k=true) (G:cW k x=true):Instr.sameNow d k x=some (dR k x):=by simp only[pX,I]at hk;cases d<;>simp at hk<;>subst hk<;>cases k<;>simp[rH]at A<;>cases x<;>simp[cW]at G;{simp[Instr.sameNow,dR]};{subst G;simp only[Instr.sameNow,dR,if_true,decide_true,Bool.true_and];congr 1};simp[Instr.sameNow,dR,beq_toListBytes,yC]
theorem aTK {D:TypeId} {d:TypeDesc} {E:Nat} (G:P.underlying D=some d) (hk:pX P D=some E) {k:Value} (A:rH E k=true):∀ (es:List MapEntry) (i:Nat),(∀x∈es.map (·.key),cW k x=true)->Instr.findNow d k es i=some (lI k es i)|[],i,_=>rfl|e::es,i,h=>by simp only[Instr.findNow,bLY G hk A (h e.key (by simp)),lI];cases dR k e.key with|true=>rfl|false=>simpa using aTK G hk A es (i+1) (fun x I=>h x (by simp[*]))
theorem rL {A:TypeId} {E:Nat} (hk:pX P A=some E) {k:Value} (D:rH E k=true) {es:List MapEntry} (h:∀x∈es.map (·.key),cW k x=true) (w:World): (Instr.findKey A k es).run P w=.ok (lI k es 0) w:=by
 cases G:P.underlying A with
 |none=>simp_all [pX]
 |some d=>simp[Instr.findKey,run_underlying G,aTK G hk D es 0 h]
theorem sJ {A:TypeId} {E:Nat} (hk:pX P A=some E) (b:Bool) (n:Nat) (v:Value) (w:World):(Instr.checkKey b (n+1) A v).run P w=.ok () w:=by cases D:P.underlying A with|none=>simp_all [pX]|some d=>cases d<;>simp[pX,D]at hk<;>cases v<;>simp[Instr.checkKey,run_underlying D]
theorem aZY {k:Value}:∀ (es:List MapEntry) (vs:List AV) (i:Nat),HoldsL fz vs ρ (es.map (·.val))->
  match eQ k (es.map (·.key)) vs with
  |some y=>∃j v,lI k es i=some (j,v)/\Holds fz y ρ v
  |none=>lI k es i=none
 |[],vs,i,h=>by rfl
 |e::es,vs,i,h=>by
  cases vs with
  |nil=>grind [HoldsL]
  |cons y vs=>
   simp only[List.map_cons,HoldsL]at h
   obtain⟨v,r,e1,h1,A⟩:=h
   simp only[List.cons.injEq]at e1
   obtain⟨e1,rfl⟩:=e1
   simp only[List.map_cons,eQ,lI]
   cases dR k e.key with
   |true=>grind
   |false=>simp only[Bool.false_eq_true,if_false];exact aZY es vs (i+1) A
theorem nS (h:SimE C V a w fz ρ) {t U e:TypeId} {x k:Operand} {ok:Bool} (ad:o.op=.lookup t x k ok) (W:P.underlying t=some (.map U e)) {Y:Nat} (hk:pX P U=some Y) {i:TypeInfo} {z:Value} (hi:P.info? e=some i) (Z:i.zero=some z) {A:Value} (ae:a.eval k=A) (I:rH Y A=true) {es:Array MapEntry} {vs:List AV} {ρ':Ren} (hle:Ren.le ρ' ρ) (J:HoldsL fz vs ρ' (es.toList.map (·.val))) (hx:(a.eval x=.map none/\es= #[])\/ ∃c clock,a.eval x=.map (some c)/\w.heap[c]? =some (.map es clock)) (K:∀y∈es.toList.map (·.key),cW A y=true) (hd:∀i,o.dst=some i->i<C.N): cI P C V a w o (aEW z ok A (es.toList.map (·.key)) vs):=by
 have hf:=rL hk I K w;have D:=aZY (k:=A) es.toList vs 0 J;have hc:=sJ hk es.isEmpty 9999 A w;have E:∀r,(match lI A es.toList 0 with|some (_,v)=>(v,true)|none=>(z,false))=r->(Instr.lookup t (a.eval x) A ok).run P w=.ok (if ok then .tuple #[r.1,.bool r.2]else r.1) w:=by
  intro r hr;have key:(Instr.lookup t (a.eval x) A ok).run P w=(match lI A es.toList 0 with
   |some (_,v)=>Result.ok (if ok then .tuple #[v,.bool true]else v) w
   |none=>Result.ok (if ok then .tuple #[z,.bool false]else z) w):=by
   rcases hx with⟨e1,L⟩|⟨c,clock,e1,L⟩
   ·subst L
    rw[e1]
    simp only[Instr.lookup,Sem.run_bind,run_underlying W,Result.andThen_ok,Sem.run_pure,hc,hf]
    simp[lI,nA hi Z]
   ·rw[e1]
    have M:(getObj c).run P w=.ok (.map es clock) w:=by simp[getObj,Sem.run,L]
    simp only[Instr.lookup,Sem.run_bind,run_underlying W,Result.andThen_ok,Sem.run_pure,M,hc,hf]
    cases lI A es.toList 0 with
     |none=>simp[nA hi Z]
     |some q=>obtain⟨j,v⟩:=q;simp
  grind
 simp only[aEW];cases G:eQ A (es.toList.map (·.key)) vs with
 |none=>
  rw[G]at D
  simp only at D
  have:=E (z,false) (by rw[D])
  refine aF h (v:=if ok then .tuple #[z,.bool false]else z) (by simp_all [execOp]) hd ?_ ?_
  ·cases ok
   ·simp only[Bool.false_eq_true,if_false,Holds]
   simp[if_true,Holds,HoldsL,bool]
  ·cases ok<;>rfl
 |some y=>
  rw[G]at D
  obtain⟨j,v,O,hh⟩:=D
  have:=E (v,true) (by rw[O])
  have S:=(hh.mono (Fz.le_refl _) _ _ _ _ hle).dem
  refine aF h (v:=if ok then .tuple #[v,.bool true]else v) (by simp_all [execOp]) hd ?_ ?_
  ·cases ok
   ·simpa only[Bool.false_eq_true,if_false]using S
   simp_all [if_true,Holds,HoldsL,bool]
  ·cases ok
   ·exact cV y
   ·rfl
theorem cEE {a b:Value} (h:dR a b=true):a=b:=by unfold dR at h;grind
theorem bUD (h:SimE C V a w fz ρ) {t kt e:TypeId} {x k:Operand} {ok:Bool} (J:o.op=.lookup t x k ok) (Y:P.underlying t=some (.map kt e)) {kd:Nat} (hk:pX P kt=some kd) {i:TypeInfo} {z:Value} (hi:P.info? e=some i) (Z:i.zero=some z) {g:Nat->Option Blk} (hg:∀b k,g b=some k->V.hp b=some k) {ef:Eff} (he:cLY kd z ok g [V.ev x,V.ev k]=some ef) (I:ef.ob) (hd:∀i,o.dst=some i->i<C.N):cI P C V a w o ef:=by
 have M:=h.ev x;have A:=h.ev k;have W:∀D ks vs,(aEW z ok D ks vs).ob= ∀a∈ks,cW D a=true:=by intro D ks vs;simp only[aEW];split<;>rfl
 unfold cLY at he;split at he;{rename_i b D heq;simp only[List.cons.injEq,and_true]at heq;rw[heq.1]at M;rw[heq.2]at A;simp only[Holds]at M A;obtain⟨c,ae,G⟩:=M;split at he;{rename_i ks vs ab;split at he;{rename_i E;cases he;obtain⟨c',O,_,⟨es,clock,hm,K,L,_⟩,_⟩:=h.hp _ _ (hg _ _ ab);rw[ae]at O;cases O;rw[W]at I;subst K;exact nS h J Y hk hi Z A E (Ren.le_refl _) L (.inr ⟨c,clock,G,hm⟩) I hd};{cases he}};{rename_i ks vs ab;split at he;{rename_i E;cases he;obtain⟨c',O,_,⟨es,clock,hm,K,L,_⟩,_⟩:=h.hp _ _ (hg _ _ ab);rw[ae]at O;cases O;rw[W]at I;subst K;exact nS h J Y hk hi Z A E (Ren.le_refl _) L (.inr ⟨c,clock,G,hm⟩) I hd};{cases he}};{cases he}};{rename_i ks vs D heq;simp only[List.cons.injEq,and_true]at heq;rw[heq.1]at M;rw[heq.2]at A;simp only[Holds]at M A;split at he;{rename_i E;cases he;rw[W]at I;rcases M with⟨G,rfl,rfl⟩|⟨c,es,clock,G,ho,K,L⟩;{exact nS (es:=#[]) h J Y hk hi Z A E (Ren.le_refl ρ) (by simp[HoldsL]) (.inl ⟨G,rfl⟩) (by simp) hd};{subst K;exact nS h J Y hk hi Z A E (aAQ _) L (.inr ⟨c,clock,G,h.fobj c _ ho⟩) I hd}};{cases he}}
 ·rename_i ks u D heq;simp only[List.cons.injEq,and_true]at heq;rw[heq.1]at M;rw[heq.2]at A;simp only[Holds]at M A;split at he
  ·rename_i E;cases he;have ak:∀l:List Value,eQ D l (l.map fun k=>AV.val (u k))=if l.any (dR D)then some (.val (u D))else none:=by
    intro l;induction l with
     |nil=>simp[eQ]
     |cons a l ih=>
      have e:eQ D (a::l) ((a::l).map fun k=>AV.val (u k))=if dR D a=true then some (.val (u a))else eQ D l (l.map fun k=>AV.val (u k)):=rfl
      rw[e,ih,List.any_cons];cases am:dR D a with|false=>simp|true=>rw[cEE am];simp
   have fin:∀l:List Value,l.any (dR D)=ks.any (dR D)->(aEW z ok D l (l.map fun k=>AV.val (u k))).out=(if ok then .tup [.val (if ks.any (dR D)then u D else z),.val (.bool (ks.any (dR D)))]else .val (if ks.any (dR D)then u D else z)):=(by intro l hl;rw[<-hl];simp only[aEW,ak];cases l.any (dR D)<;>cases ok<;>simp[Aw.dem]);have conv:∀ (e1 e2:Eff),e1.out=e2.out->e1.dem=none->e1.blk=none->e1.bs=[]->e2.dem=none->e2.blk=none->e2.bs=[]->cI P C V a w o e1->cI P C V a w o e2:=by intro e1 e2 h1 h2 h3 h4 h5 h6 h7 hs Q;have:=hs Q;have e:V.app o.dst e2=V.app o.dst e1:=(by simp only[View.app,h1,h2,h3,h4,h5,h6,h7]);rw[e];exact this
   have plain:∀l vs,(aEW z ok D l vs).dem=none/\(aEW z ok D l vs).blk=none/\(aEW z ok D l vs).bs=[]:=(by intro l vs;simp only[aEW];split<;>exact⟨rfl,rfl,rfl⟩);rcases M with⟨G,rfl⟩|⟨c,es,clock,G,ho,ad,K⟩;{have p:=plain [] [];exact conv _ _ (fin [] rfl) p.1 p.2.1 p.2.2 rfl rfl rfl (nS (es:=#[]) (vs:=[]) h J Y hk hi Z A E (Ren.le_refl ρ) (by simp[HoldsL]) (.inl ⟨G,rfl⟩) (by simp) hd)};{have af:(es.toList.map (·.key)).any (dR D)=ks.any (dR D):=(by refine Bool.eq_iff_iff.2 ?_;simp only[List.any_eq_true,List.mem_map];constructor;{rintro⟨k',⟨e',S,rfl⟩,U⟩;exact⟨_,(ad e' S).2,U⟩};{rintro⟨k',an,U⟩;obtain⟨e',S,rfl⟩:=K k' an;exact⟨_,⟨e',S,rfl⟩,U⟩});have L:HoldsL fz ((es.toList.map (·.key)).map fun k=>AV.val (u k)) ρ (es.toList.map (·.val)):=(by have:∀l:List MapEntry,(∀e∈l,e.val=u e.key)->HoldsL fz ((l.map (·.key)).map fun k=>AV.val (u k)) ρ (l.map (·.val)):=(by intro l;induction l with|nil=>intro _;simp[HoldsL]|cons a l ih=>intro hl;simp only[List.map_cons,HoldsL];exact⟨_,_,rfl,by simp only[Holds];exact hl a (by simp),ih fun e he=>hl e (by simp[he])⟩);exact this _ fun e he=>(ad e he).1);have p:=plain (es.toList.map (·.key)) ((es.toList.map (·.key)).map fun k=>AV.val (u k));exact conv _ _ (fin _ af) p.1 p.2.1 p.2.2 rfl rfl rfl (nS h J Y hk hi Z A E (Ren.le_refl ρ) L (.inr ⟨c,clock,G,h.fobj c _ ho⟩) (fun y hy=>by obtain⟨e',S,rfl⟩:=List.mem_map.1 hy;exact I _ (ad e' S).2) hd)}
  {cases he}
 {rename_i D heq;simp only[List.cons.injEq,and_true]at heq;rw[heq.1]at M;rw[heq.2]at A;simp only[Holds]at M A;split at he;{rename_i E;cases he;rw[W]at I;exact nS (es:=#[]) h J Y hk hi Z A E (Ren.le_refl ρ) (by simp[HoldsL]) (.inl ⟨M,rfl⟩) (by simp) hd};{cases he}};{cases he}
theorem bIX {k:Value}:∀ (es:List MapEntry) (vs:List AV) (i:Nat),HoldsL fz vs ρ (es.map (·.val))->
  match eQ k (es.map (·.key)) vs with
  |some y=>∃v,lI k es i=some (i+aLB k (es.map (·.key)),v)/\(es.map (·.val))[aLB k (es.map (·.key))]? =some v/\vs[aLB k (es.map (·.key))]? =some y/\Holds fz y ρ v
  |none=>lI k es i=none
 |[],vs,i,h=>by rfl
 |e::es,vs,i,h=>by
  cases vs with
  |nil=>grind [HoldsL]
  |cons y vs=>
   simp only[List.map_cons,HoldsL]at h
   obtain⟨v,r,e1,h1,A⟩:=h
   simp only[List.cons.injEq]at e1
   obtain⟨e1,rfl⟩:=e1
   simp only[List.map_cons,eQ,lI,aLB]
   cases dR k e.key with
   |true=>simp[*]
   |false=>
    simp only[Bool.false_eq_true,if_false]
    have D:=bIX (k:=k) es vs (i+1) A
    grind
theorem bLO (h:SimE C V a w fz ρ) {t kt e:TypeId} {x k:Operand} (O:o.op=.lookup t x k false) (ht:P.underlying t=some (.map kt e)) {kd:Nat} (hk:pX P kt=some kd) {i:TypeInfo} {z:Value} (hi:P.info? e=some i) (hz:i.zero=some z) {g:Nat->Option Blk} (hg:∀b k,g b=some k->V.hp b=some k) {ef:Eff} (he:bSN kd z o.dst g [V.ev x,V.ev k]=some ef) (D:ef.ob) (hd:∀i,o.dst=some i->i<C.N):cI P C V a w o ef:=by have hx:=h.ev x;have E:=h.ev k;unfold bSN at he;split at he;{rename_i b G heq;simp only[List.cons.injEq,and_true]at heq;rw[heq.1]at hx;rw[heq.2]at E;simp only[Holds]at hx E;obtain⟨c,S,U⟩:=hx;split at he;{rename_i ks vs J;split at he;{rename_i K;obtain⟨c',W,_,⟨es,clock,hm,ad,ae,_⟩,_⟩:=h.hp _ _ (hg _ _ J);rw[S]at W;cases W;subst ad;have Y:(getObj c).run P w=.ok (.map es clock) w:=(by simp[getObj,Sem.run,hm]);have hc:=sJ hk es.isEmpty 9999 G w;have A:=bIX (k:=G) es.toList vs 0 ae;obtain⟨d,I⟩:=Option.isSome_iff_exists.1 K.2;split at he;{rename_i y hy;cases he;simp only at D;have hf:=rL hk K.1 D w;rw[hy]at A;obtain⟨v,a1,a2,a3,a4⟩:=A;have L:(Instr.lookup t (a.eval x) G false).run P w=.ok v w:=(by rw[U];simp only[Instr.lookup,Sem.run_bind,run_underlying ht,Result.andThen_ok,Sem.run_pure,Y,hc,hf];rw[a1];simp);intro Q;refine cP (v:=v) (w':=w) (by simp[execOp,O,E,L]) ⟨fz,ρ,?_⟩;have M:V.at (.c b (aLB G (es.toList.map (·.key))))=y:=(by simp only[View.at,hg _ _ J,Option.map_some,Option.getD_some,Blk.at,List.getD_eq_getElem?_getD,a3]);have Z:bM a w ρ (.c b (aLB G (es.toList.map (·.key))))=v:=(by simp only[bM,S,cQ,hm];have:(es[aLB G (es.toList.map (·.key))]?).map (·.val)=some v:=(by simpa using a2);rw[this];rfl);have:=h.take (p:=.c b (aLB G (es.toList.map (·.key)))) ⟨_,hg _ _ J,by simp only[Blk.len];exact(List.getElem?_eq_some_iff.1 a3).1⟩ (hd d I) (by intro e;cases e) (by rw[M,Z];exact a4);rw[M,Z]at this;rw[I];show SimE C (((V.demP (some (.c b (aLB G (es.toList.map (·.key)))))).setBO none).putO (some d) y) _ w fz ρ;simp only[View.demP,View.setBO,View.putO,M];exact this};{rename_i hy;cases he;simp only at D;have hf:=rL hk K.1 D w;rw[hy]at A;simp only at A;have L:(Instr.lookup t (a.eval x) G false).run P w=.ok z w:=(by rw[U];simp only[Instr.lookup,Sem.run_bind,run_underlying ht,Result.andThen_ok,Sem.run_pure,Y,hc,hf];rw[A];simp[nA hi hz]);exact aF h (v:=z) (by simp[execOp,O,E,L]) hd (by simp only[Holds]) rfl}};{cases he}};{cases he}};{cases he}
end Go.Aw
end
section
namespace Go.Aw
variable [GL]
variable {P:Program} {C:Ctx} {V:View} {a:Act} {w:World} {fz:Fz} {ρ:Ren} {o:Oper} {Q:Exit->Act->World->Prop}
theorem aNM {k:Value} {y:AV}:∀ (es:List MapEntry) (vs:List AV) (i:Nat),vs.length=es.length->
  match lI k es i with
  |some (j,_)=>∃m,j=i+m/\m<es.length/\(∀e,es[m]? =some e->dR k e.key=true)/\fQ k y (es.map (·.key)) vs=((es.map (·.key)).set m k,vs.set m y)
  |none=>fQ k y (es.map (·.key)) vs=(es.map (·.key)++[k],vs++[y])
 |[],vs,i,h=>by
  simp_all [List.eq_nil_of_length_eq_zero,lI,fQ]
 |e::es,vs,i,h=>by
  cases vs with
  |nil=>grind
  |cons x vs=>
   simp only[lI,List.map_cons,fQ]
   cases hk:dR k e.key with
   |true=>simp[*]
   |false=>
    simp only[Bool.false_eq_true,if_false]
    have A:=aNM (k:=k) (y:=y) es vs (i+1) (by simp_all)
    cases D:lI k es (i+1)with
    |none=>simp_all
    |some q=>
     obtain⟨j,v⟩:=q
     rw[D]at A
     obtain⟨m,h1,E,G,I⟩:=A
     exact⟨m+1,by omega,by simp[*],by assumption,by simp[*]⟩
theorem aGS {k x:Value} (h:dR k x=true) (n:Nat):Instr.sameBits n x k=true:=by cases k<;>cases x<;>simp[dR]at h<;>cases n<;>simp[Instr.sameBits,h,beq_toListBytes]
def World.setObj (w:World) (c:Nat) (ob:Obj):World:={w with heap:=w.heap.setIfInBounds c ob}
theorem SimE.setMap (h:SimE C V a w fz ρ) {b c:Nat} {k0 k:Blk} (D:V.hp b=some k0) (E:ρ b=some c) {ob:Obj} (hk:BlkAt fz ρ (World.setObj w c ob) c k) (A:∀j,aG (k.at j)=true->k.at j=k0.at j/\cQ (World.setObj w c ob) c j=cQ w c j):SimE C (V.setB b k) a (World.setObj w c ob) fz ρ:=
 h.setBlk D E rfl rfl ⟨rfl,fun _=>Nat.le_refl _⟩ (by simp[World.setObj]) (fun i hi=>by simp[World.setObj,Ne.symm hi]) hk A
theorem bVU (h:SimE C V a w fz ρ) {t kt e:TypeId} {x k v:Operand} (G:o.op=.mapUpdate t x k v\/o.op=.insert t x k v) (ht:P.underlying t=some (.map kt e)) {kd:Nat} (hk:pX P kt=some kd) {b c:Nat} {A:Value} {O:AV} {es:Array MapEntry} {clock:Nat} {vs:List AV} (hb:V.hp b=some (.map (es.toList.map (·.key)) vs)) (Z:ρ b=some c) (aa:a.eval x=.map (some c)) (ab:a.eval k=A) (hv:Holds fz O ρ (a.eval v)) (ai:rH kd A=true) (hm:w.heap[c]? =some (.map es clock)) (W:HoldsL fz vs ρ (es.toList.map (·.val))) (S:clock=es.size) (J:∀ (j:Nat) (x:MapEntry),es[j]? =some x->x.born=j) (aj:∀y∈es.toList.map (·.key),cW A y=true): ∃w' ix,(execOp a.eval o).run P w=.ok .skip w'/\SimE C (V.setB b (.map (fQ A (dem O) (es.toList.map (·.key)) vs).1 (fQ A (dem O) (es.toList.map (·.key)) vs).2)) a w' fz ρ/\cQ w' c ix=a.eval v/\ ix<(fQ A (dem O) (es.toList.map (·.key)) vs).2.length/\ ∀y,fQ A y (es.toList.map (·.key)) vs=((fQ A (dem O) (es.toList.map (·.key)) vs).1,(fQ A (dem O) (es.toList.map (·.key)) vs).2.set ix y):=by
 have hlen:vs.length=es.toList.length:=by simpa using W.len.symm
 have E:=fun y=>aNM (k:=A) (y:=y) es.toList vs 0 hlen;have ac:(getObj c).run P w=.ok (.map es clock) w:=by simp[getObj,Sem.run,hm]
 have hf:=rL hk ai aj w;have hc:=sJ hk false 9999 A w;have ad:∀ob,(setObj c ob).run P w=.ok () {w with heap:=w.heap.setIfInBounds c ob}:=by simp_all [setObj,Sem.run]
 have K:c<w.heap.size:=cE hm;cases M:lI A es.toList 0 with
 |none=>
  rw[M]at hf
  simp only[M]at E
  have U:=E (dem O)
  refine⟨World.setObj w c (.map (es.push {key:=A,val:=a.eval v,born:=clock}) (clock+1)),es.size,?_,?_,?_,?_,?_⟩
  ·rcases G with G|G<;>simp only[execOp,G,aa,ab,Instr.mapUpdate,Sem.run_bind,run_underlying ht,Result.andThen_ok,ac,hc,hf,ad,Sem.run_pure,World.setObj]
  ·rw[U]
   refine h.setMap hb Z ?_ ?_
   ·refine⟨es.push {key:=A,val:=a.eval v,born:=clock},clock+1,by simp only[World.setObj,Array.getElem?_setIfInBounds_self_of_lt K],by simp,?_,?_,?_⟩
    ·simp only[Array.toList_push,List.map_append,List.map_cons,List.map_nil]
     exact W.append (by simp only[HoldsL];exact⟨_,[],rfl,hv.dem,rfl⟩)
    ·simp[S]
    ·intro j x L
     rw[Array.getElem?_push]at L
     split at L
     ·rename_i e;cases L;simp only;omega
     ·exact J j x L
   ·intro j Y
    simp only[Blk.at,List.getD_eq_getElem?_getD]at Y|-
    by_cases k1:j<vs.length
    ·refine⟨by rw[List.getElem?_append_left k1],?_⟩
     have k2:j<es.size:=by have:=hlen;simp at this;omega
     have k3:(es.push {key:=A,val:=a.eval v,born:=clock})[j]? =es[j]?:=by rw[Array.getElem?_push,if_neg (Nat.ne_of_lt k2)]
     simp only[cQ,World.setObj,Array.getElem?_setIfInBounds_self_of_lt K,hm,k3]
    ·exfalso
     by_cases k2:j=vs.length
     ·subst k2;simp[cV]at Y
     ·rw[List.getElem?_eq_none (by simp;omega)]at Y;simp[aG]at Y
  ·simp[cQ,World.setObj,Array.getElem?_setIfInBounds_self_of_lt K]
  ·rw[U];have:=hlen;simp at this|-;omega
  simp[*]
 |some q=>
  obtain⟨I,v0⟩:=q
  rw[M]at hf
  simp only[M]at E
  obtain⟨m,ae,an,ao,af⟩:=E (dem O)
  simp only[Nat.zero_add]at ae
  subst ae
  have D:I<es.size:=by simpa using an
  have ag:(((es[I]?).map (·.key)).getD A)=es[I].key:=by simp[D]
  have ap:Instr.sameBits 10000 es[I].key A=true:=aGS (ao _ (by simp[D])) _
  refine⟨World.setObj w c (.map (es.modify I fun e=>{e with key:=A,val:=a.eval v}) clock),I,?_,?_,?_,?_,?_⟩
  ·rcases G with G|G<;>simp only[execOp,G,aa,ab,Instr.mapUpdate,Sem.run_bind,run_underlying ht,Result.andThen_ok,ac,hc,hf,ag,Instr.keyThatStays,ap,if_true,ad,Sem.run_pure,World.setObj]
  ·rw[af]
   have hl:(es.modify I fun e=>{e with key:=A,val:=a.eval v}).toList=es.toList.set I {es[I]with key:=A,val:=a.eval v}:=by
    apply List.ext_getElem?
    intro i
    rw[Array.getElem?_toList,Array.getElem?_modify,List.getElem?_set]
    by_cases e:I=i
    ·subst e;simp[D]
    ·simp[e]
   refine h.setMap hb Z ?_ ?_
   ·refine⟨es.modify I fun e=>{e with key:=A,val:=a.eval v},clock,by simp only[World.setObj,Array.getElem?_setIfInBounds_self_of_lt K],by rw[hl,List.map_set],?_,?_,?_⟩
    ·rw[hl,List.map_set];exact W.set I hv.dem
    ·simp[S]
    ·intro j x L
     rw[Array.getElem?_modify]at L
     split at L
     ·rename_i e;subst e
      simp[D]at L
      rw[<-L];simp only;exact J _ es[I] (by simp[D])
     ·exact J j x L
   ·intro j Y
    simp only[Blk.at,List.getD_eq_getElem?_getD,List.getElem?_set]at Y|-
    by_cases e:I=j
    ·subst e
     have:I<vs.length:=by omega
     simp[this,cV]at Y
    ·refine⟨by simp[e],?_⟩
     have k3:(es.modify I fun e=>{e with key:=A,val:=a.eval v})[j]? =es[j]?:=by rw[Array.getElem?_modify,if_neg e]
     simp only[cQ,World.setObj,Array.getElem?_setIfInBounds_self_of_lt K,hm,k3]
  ·simp only[cQ,World.setObj,Array.getElem?_setIfInBounds_self_of_lt K,Array.getElem?_modify,if_true]
   simp[D]
  ·rw[af];simp;have:=hlen;simp at this;omega
  simp_all
theorem aQF (h:SimE C V a w fz ρ) {t kt e:TypeId} {x k v:Operand} (ag:o.op=.mapUpdate t x k v\/o.op=.insert t x k v) (ht:P.underlying t=some (.map kt e)) {kd:Nat} (hk:pX P kt=some kd) {g:Nat->Option Blk} (hg:∀b k,g b=some k->V.hp b=some k) {ef:Eff} (he:bSL kd v g [V.ev x,V.ev k,V.ev v]=some ef) (L:ef.ob) (hd:∀i,o.dst=some i->i<C.N) (a0:∀t,v=.tmp t->o.dst≠some t):cI P C V a w o ef:=by
 have hx:=h.ev x;have D:=h.ev k;have hv:=h.ev v;unfold bSL at he;split at he
 ·rename_i b kv vv heq;simp only[List.cons.injEq,and_true]at heq;obtain⟨e1,e2,e3⟩:=heq;rw[e1]at hx;rw[e2]at D;rw[e3]at hv;simp only[Holds]at hx D;obtain⟨c,E,ai⟩:=hx;split at he
  ·rename_i ks vs M;split at he
   ·rename_i aj;obtain⟨c',O,a3,⟨es,clock,hm,ak,al,S,G⟩,a4⟩:=h.hp _ _ (hg _ _ M);rw[E]at O;cases O;subst ak;have U:ef.ob= ∀a∈es.toList.map (·.key),cW kv a=true:=(by split at he<;>cases he<;>rfl);rw[U]at L;obtain⟨w',W,r1,Y,r3,Z,r5⟩:=bVU h ag ht hk (hg _ _ M) E ai D hv aj.2 hm al S G L;split at he
    ·rename_i J wd rows A aa;cases he;have an:v=.tmp A:=(by cases v<;>simp[bFX]at aa;rw[aa]);subst an;have I:V.tm A=.own J wd rows:=(by simpa[View.ev]using e3);intro Q;refine xU r1 ⟨fz,ρ,?_⟩;have hK:=r5 (dem (.own J wd rows));generalize fQ kv (dem (.own J wd rows)) (es.toList.map (·.key)) vs=K at Y Z r5 hK;obtain⟨ks',vs'⟩:=K;have ab:vs'=vs'.set W (.rd wd rows):=congrArg Prod.snd hK;clear hK;have Y:SimE C (V.setB b (.map ks' vs')) a w' fz ρ:=Y;have Z:W<vs'.length:=Z;have ap:vs'[W]? =some (.rd wd rows):=(by rw[ab,List.getElem?_set_self Z]);clear ab;have ac:=Y.move (p:=.t A) (q:=.c b W) (by intro e;cases e) (by simp[View.at,View.setB,I,aG])
      ⟨.map ks' vs',by simp[View.setB],Z⟩ (by
       simp only[View.at,View.setB,if_true,Option.map_some,Option.getD_some,Blk.at,List.getD_eq_getElem?_getD]
       rw[ap,I];rfl)
      (by simp only[bM,E,r3];rfl)
     have ad:((V.setB b (.map ks' vs')).setAt (.t A) (dem ((V.setB b (.map ks' vs')).at (.t A)))).setAt (.c b W) ((V.setB b (.map ks' vs')).at (.t A))=
      (V.setAt (.t A) (dem (V.at (.t A)))).setB b (.map (fQ kv (.own J wd rows) (es.toList.map (·.key)) vs).1 (fQ kv (.own J wd rows) (es.toList.map (·.key)) vs).2):=by
      rw[r5 (.own J wd rows)]
      simp only[View.setAt,View.at,View.setB,View.put,if_true,I,Blk.set,View.mk.injEq,true_and]
      funext c';split<;>simp_all
     rw[ad]at ac;exact ac.putO hd (by simp only[Holds]) rfl
    {cases he;intro Q;exact xU r1 ⟨fz,ρ,Y.putO hd (by simp only[Holds]) rfl⟩}
   {cases he}
  {cases he}
 {cases he}
theorem bGH (h:SimE C V a w fz ρ) {neg:Bool} {op:BinOp} (A:op=if neg then .neq else .eql) {t u:TypeId} {x:Operand} (E:o.op=.binOp op t x (.const (.map none)) u) {I e:TypeId} (L:P.underlying t=some (.map I e)) {J:Eff} (he:bEW neg [V.ev x]=some J) (K:∀i,o.dst=some i->i<C.N):cI P C V a w o J:=by
 have D:=h.ev x;have key:∀r:Option Nat,a.eval x=.map r->(execOp a.eval o).run P w=.ok (.value (.bool (if neg then !r.isNone else r.isNone))) w:=by intro r G;have h1:(eqGuard op t x (.const (.map none)) (a.eval x) (.map none)).run P w=.ok () w:=(by rw[G];exact dD _ _ _ _ _ _ rfl (by simp));have M:=run_equalIn_map_nil (P:=P) w 9999 t I e r L;have O:a.eval (.const (.map none))=.map none:=rfl;cases neg<;>simp only[Bool.false_eq_true,if_false,if_true]at A<;>subst A<;>rw[G]at h1<;> simp[execOp,E,h1,O,G,binOp,Op.equal,Op.maxDepth,M]
 unfold bEW at he;split at he;{rename_i b heq;simp only[List.cons.injEq,and_true]at heq;rw[heq]at D;simp only[Holds]at D;obtain⟨c,_,S⟩:=D;cases he;refine aF h (key (some c) S) K ?_ rfl;cases neg<;>simp[Holds]};{rename_i heq;simp only[List.cons.injEq,and_true]at heq;rw[heq]at D;simp only[Holds]at D;cases he;refine aF h (key none D) K ?_ rfl;cases neg<;>simp[Holds]};{cases he}
theorem aNN {k:Value}:∀ (es:List MapEntry) (vs:List AV) (i:Nat),vs.length=es.length->
  match lI k es i with
  |some (j,_)=>∃m,j=i+m/\m<es.length/\aAZ k (es.map (·.key)) vs=((es.map (·.key)).eraseIdx m,vs.eraseIdx m)
  |none=>aAZ k (es.map (·.key)) vs=(es.map (·.key),vs)
 |[],vs,i,h=>by
  simp_all [List.eq_nil_of_length_eq_zero,lI,aAZ]
 |e::es,vs,i,h=>by
  cases vs with
  |nil=>grind
  |cons x vs=>
   simp only[lI,List.map_cons,aAZ]
   cases hk:dR k e.key with
   |true=>simp
   |false=>
    simp only[Bool.false_eq_true,if_false]
    have A:=aNN (k:=k) es vs (i+1) (by simp_all)
    cases D:lI k es (i+1)with
    |none=>simp_all
    |some q=>
     obtain⟨j,v⟩:=q
     rw[D]at A
     obtain⟨m,h1,E,G⟩:=A
     exact⟨m+1,by omega,by simp[*],by simp[*]⟩
theorem vO {α β:Type} (f:α->β):∀ (l:List α) (i:Nat),(l.eraseIdx i).map f=(l.map f).eraseIdx i
 |[],i=>by simp
 |x::l,0=>by simp
 |x::l,i+1=>by simp[vO f l i]
theorem HoldsL.eraseIdx:∀ {l:List AV} {ρ:Ren} {vs:List Value} (i:Nat),HoldsL fz l ρ vs->HoldsL fz (l.eraseIdx i) ρ (vs.eraseIdx i)
 |[],_,vs,i,h=>by simp_all [HoldsL]
 |x::l,_,vs,0,h=>by grind [HoldsL]
 |x::l,_,vs,i+1,h=>by simp only[HoldsL]at h;obtain⟨v,r,rfl,h1,h⟩:=h;simp only[List.eraseIdx_cons_succ,HoldsL];exact⟨v,r.eraseIdx i,rfl,h1,h.eraseIdx i⟩
theorem BlkAt.weakMap {c:Nat} {ks:List Value} {vs:List AV} (h:BlkAt fz ρ w c (.map ks vs)):BlkAt fz ρ w c (.mapd ks vs):=by obtain⟨es,clock,h1,D,E,I,A⟩:=h;refine⟨es,clock,h1,D,E,?_,fun x J=>?_⟩;{rw[List.pairwise_iff_getElem];intro i j hi K G;have e1:=A i es.toList[i] (by simp);have L:=A j es.toList[j] (by simp);omega};grind [List.mem_iff_getElem?,List.getElem?_eq_some_iff]
theorem bUK (h:SimE C V a w fz ρ) {t kt e u:TypeId} {x k:Operand} (ad:o.op=.call {callee:=.builtin .delete,args:=#[x,k],argTypes:=#[t,u]}) (ht:P.underlying t=some (.map kt e)) {kd:Nat} (hk:pX P kt=some kd) {g:Nat->Option Blk} (hg:∀b k,g b=some k->V.hp b=some k) {ef:Eff} (he:cMF kd g [V.ev x,V.ev k]=some ef) (K:ef.ob) (hd:∀i,o.dst=some i->i<C.N):cI P C V a w o ef:=by
 have O:=h.ev x;have G:=h.ev k;have main:∀ (b:Nat) (E:Value) (k0:Blk) (ks:List Value) (vs:List AV),V.ev x=.mapr b->V.ev k=.val E->V.hp b=some k0->k0.len=vs.length->(∀j,k0.at j=vs.getD j .unk)->(∀c,BlkAt fz ρ w c k0->BlkAt fz ρ w c (.mapd ks vs))->
  rH kd E=true->(vs.all fun x=>!aG x)=true->(∀a∈ks,cW E a=true)->
  cI P C V a w o {out:=.val (.tuple #[]),blk:=some (b,.mapd (aAZ E ks vs).1 (aAZ E ks vs).2),ob:=∀a∈ks,cW E a=true}:=by
  intro b E k0 ks vs e1 e2 hb ap a1 aq D ar K
  rw[e1]at O;rw[e2]at G
  simp only[Holds]at O G
  obtain⟨c,S,U⟩:=O
  obtain⟨c',ae,a3,hB,a4⟩:=h.hp _ _ hb
  rw[S]at ae;cases ae
  obtain⟨es,clock,hm,au,W,I,J⟩:=aq c hB
  subst au
  have hlen:vs.length=es.toList.length:=by simpa using W.len.symm
  have A:=aNN (k:=E) es.toList vs 0 hlen
  have Y:(getObj c).run P w=.ok (.map es clock) w:=by simp[getObj,Sem.run,hm]
  have hf:=rL hk D K w
  have hc:=sJ hk es.isEmpty 9999 E w
  have Z:∀ob,(setObj c ob).run P w=.ok () {w with heap:=w.heap.setIfInBounds c ob}:=by intro ob;simp[setObj,Sem.run,hm]
  have ah:c<w.heap.size:=cE hm
  have M:∀l:List AV,(∀x∈l,x∈vs)-> ∀j,aG (l.getD j .unk)=false:=by
   intro l hl j
   rw[List.getD_eq_getElem?_getD]
   cases L:l[j]? with
    |none=>rfl
    |some y=>
     have:=List.all_eq_true.1 ar y (hl y (List.mem_of_getElem? L))
     simpa using this
  intro Q
  cases ai:lI E es.toList 0 with
  |none=>
   rw[ai]at A hf
   simp only at A
   refine cP (v:=.tuple #[]) (w':={w with heap:=w.heap.setIfInBounds c (.map es clock)}) ?_ ⟨fz,ρ,?_⟩
   ·simp only[execOp,ad,resolve,invoke,builtin,Builtin.delete_,U,G,Array.map,List.map,Sem.run_bind,run_underlying ht,Result.andThen_ok,Y,hc,hf,Z,Sem.run_pure]
    simp[U,G,run_underlying ht,Y,hc,hf,Z]
   ·simp only[View.app,View.demP,View.setBO,View.setBs]
    rw[A]
    refine SimE.putO (h.setMap hb S ?_ (fun j L=>?_)) hd (by simp only[Holds]) rfl
    ·exact⟨es,clock,by simp only[World.setObj,Array.getElem?_setIfInBounds_self_of_lt ah],rfl,W,I,J⟩
    ·simp only[Blk.at]at L;rw[M vs (fun _ h=>h) j]at L;cases L
  |some q=>
   obtain⟨j0,v0⟩:=q
   rw[ai]at A hf
   obtain⟨m,aj,aw,ax⟩:=A
   simp only[Nat.zero_add]at aj
   subst aj
   have ak:j0<es.size:=by simpa using aw
   refine cP (v:=.tuple #[]) (w':={w with heap:=w.heap.setIfInBounds c (.map (es.eraseIdxIfInBounds j0) clock)}) ?_ ⟨fz,ρ,?_⟩
   ·simp[execOp,ad,resolve,invoke,builtin,Builtin.delete_,U,G,run_underlying ht,Y,hc,hf,Z]
   ·simp only[View.app,View.demP,View.setBO,View.setBs]
    rw[ax]
    have hl:(es.eraseIdxIfInBounds j0).toList=es.toList.eraseIdx j0:=by simp[Array.eraseIdxIfInBounds,ak]
    refine SimE.putO (h.setMap hb S ?_ (fun j L=>?_)) hd (by simp only[Holds]) rfl
    ·refine⟨es.eraseIdxIfInBounds j0,clock,by simp only[World.setObj,Array.getElem?_setIfInBounds_self_of_lt ah],?_,?_,?_,?_⟩
     ·rw[hl,vO]
     ·rw[hl,vO];exact W.eraseIdx j0
     ·rw[hl];exact I.sublist (List.eraseIdx_sublist _ _)
     ·rw[hl];exact fun x O=>J x (List.mem_of_mem_eraseIdx O)
    ·simp only[Blk.at]at L;rw[M _ (fun x O=>List.mem_of_mem_eraseIdx O) j]at L;cases L
 unfold cMF at he;split at he;{rename_i b E heq;simp only[List.cons.injEq,and_true]at heq;split at he;{rename_i ks vs aa;split at he;{rename_i D;cases he;exact main b E _ ks vs heq.1 heq.2 (hg _ _ aa) rfl (fun _=>rfl) (fun c hB=>hB.weakMap) D.1 D.2 K};{cases he}};{rename_i ks vs aa;split at he;{rename_i D;cases he;exact main b E _ ks vs heq.1 heq.2 (hg _ _ aa) rfl (fun _=>rfl) (fun c hB=>hB) D.1 D.2 K};{cases he}};{cases he}};{cases he}
end Go.Aw
end
section
namespace Go.Aw
variable [GL]
variable {P:Program} {C:Ctx} {V:View} {a:Act} {w:World} {fz:Fz} {ρ:Ren} {o:Oper} {Q:Exit->Act->World->Prop}
theorem SimE.putOwn (h:SimE C V a w fz ρ) {d:Nat} (Y:d<C.N) {e:TypeId} {wd:Nat} {rows:List (List AV)} {v:Value} (K:Holds fz (.own e wd rows) ρ v) (G:bKI C fz ρ w e wd rows v) (A:∀q,q≠ .t d->aG (V.at q)=true-> ∀g I n L c M,v=.slice (some g) n c->bM a w ρ q=.slice (some I) L M->g.block≠I.block):SimE C (V.put d (.own e wd rows)) (a.put (some d) v) w fz ρ:=by
 have J:d<a.tmps.size:=by rw[h.sz];exact Y
 have O:Holds fz (.rd wd rows) ρ v:=by simpa only[Holds]using K
 have h1:=h.put Y O rfl;have Z:bM (a.put (some d) v) w ρ (.t d)=v:=by rw[tV _ _ _ J,if_pos rfl]
 have h2:=h1.reflag (p:=.t d) (y:=.own e wd rows) trivial (fun v K=>by
  have:(V.put d (.rd wd rows)).at (.t d)=.rd wd rows:=(by simp[View.at,View.put]);rw[this]at K;simpa only[Holds]using K) (fun e' aa S he=>by cases he;rw[Z];exact G) (fun _ q U D g I n L c M W E=>by
  rw[Z]at W;cases q with
   |t i=>have hi:i≠d:=fun e=>U (by rw[e]);have:(V.put d (.rd wd rows)).at (.t i)=V.at (.t i):=(by simp[View.at,View.put,hi]);rw[this]at D;rw[tV _ _ _ J,if_neg hi]at E;exact A _ U D g I n L c M W E
   |c b j=>exact A _ U D g I n L c M W E)
 simp_all [View.setAt,View.put,View.mk.injEq,and_true]
theorem SimE.spare (h:SimE C V a w fz ρ) {g:Nat} (hB:C.B<=g\/C.Mu g=true) (K:∀b,ρ b≠some g) (L:∀p,aG (V.at p)=true-> ∀ad n c,bM a w ρ p=.slice (some ad) n c->ad.block≠g) {w':World} (aa:w'.os=w.os) (I:w'.tape=w.tape) (M:bZB w w') (ab:w'.heap.size=w.heap.size) (E:∀i,i≠g->w'.heap[i]? =w.heap[i]?) {fz':Fz} (hle:fz.le fz') (ag:fz'.obj g=none) (ac:∀o v,fz'.cell g o=some v->w'.cell? ⟨g,o,none⟩=some v) (A:∀b,b≠g->(∀o,fz'.cell b o=fz.cell b o)/\fz'.obj b=fz.obj b):SimE C V a w' fz' ρ:=by
 have D:∀p,aG (V.at p)=true->bM a w' ρ p=bM a w ρ p:=fun p hp=>
  h.conc_same hp (Ren.le_refl _) (fun b j c _ J=>E c (fun e=>K b (by simp[*])))
 refine{h with
  tm:=fun t=>(h.tm t).mono hle _ _ _ _ (Ren.le_refl _),hp:=fun b k hk=>?_,fcell:=fun c o v e=>?_,fobj:=fun c o e=>?_,f0:=Fz.le_trans h.f0 hle,
  f1:=fun c J O=>?_,tips:=fun p e wd rows hp=>?_,tipinj:=fun p q hp hq x x' n n' c c' S U hg=>?_,
  os:=aa.trans h.os,tape:=I.trans h.tape,output:=M.trans h.output,bsz:=by rw[ab];exact h.bsz,old:=fun c J hm=>?_}
 {obtain⟨c,J,h1,W,h3,h4⟩:=h.hp b k hk;have G:c≠g:=fun e=>K b (by simp[*]);exact⟨c,J,h1,W.mono hle (Ren.le_refl _) (fun o Y=>by simp[*]),fun o=>((A c G).1 o).trans (h3 o),(A c G).2.trans h4⟩};{by_cases Z:c=g;{simp_all};{rw[(A c Z).1 o]at e;rw[World.cell?_of_block (w:=w) (E c Z)];exact h.fcell c o v e}};{by_cases Z:c=g;{simp_all};{rw[(A c Z).2]at e;rw[E c Z];exact h.fobj c o e}};{have G:c≠g:=(by grind);exact⟨fun o v e=>(h.f1 c J O).1 o v (by simp_all),fun o e=>(h.f1 c J O).2 o (by simp_all)⟩};{have Y:aG (V.at p)=true:=(by rw[hp];rfl);rw[D p Y];rcases h.tips p e wd rows hp with⟨h1,W⟩|⟨x,cap,cur,h1,W,h3,h4,h5,h6,h7,h8,h9⟩;{exact .inl ⟨h1,W⟩};{have hx:x≠g:=L p Y _ _ _ h1;exact .inr ⟨x,cap,cur,h1,W,by simp[*],h4,h5,h6,fun o Y=>((A x hx).1 o).trans (h7 o Y),(A x hx).2.trans h8,h9⟩}};{rw[D p hp]at S;rw[D q hq]at U;exact h.tipinj p q hp hq x x' n n' c c' S U hg};{have G:c≠g:=(by grind);rw[E c G];exact h.old c J hm}
theorem HoldsR.list {fz:Fz}:∀ (rows:List (List AV)) (wd b o:Nat),HoldsR fz rows wd b o-> ∃vs:List Value,vs.length=rows.length*wd/\(∀ (j:Nat) (v:Value),vs[j]? =some v->fz.cell b (o+j)=some v)/\ ∀v∈vs,v.oneCell'=true|[],_,_,_,_=>⟨[],by simp,by simp,by simp⟩|r::G,wd,b,o,h=>by simp only[HoldsR]at h;obtain⟨h1,I,J⟩:=h;obtain⟨v1,K,a2,a3⟩:=HoldsC.list _ _ _ I;obtain⟨v2,L,M,O⟩:=HoldsR.list G wd b (o+wd) J;have D:v1.length=wd:=(by rw[K.len,h1]);refine⟨v1++v2,by rw[List.length_append,L,D,List.length_cons,Nat.add_mul];omega,fun j v A=>?_,fun v S=>?_⟩;{by_cases E:j<v1.length;{rw[List.getElem?_append_left E]at A;exact a2 j v A};{rw[List.getElem?_append_right (by omega)]at A;have:=M _ v A;rwa [show o+wd+(j-v1.length)=o+j from by omega]at this}};grind
theorem HoldsC.copy {fz fz':Fz} (hle:fz.le fz'):∀ (l:List AV) (b o g A:Nat),HoldsC fz l b o->(∀j,j<l.length-> ∀v,fz.cell b (o+j)=some v->fz'.cell g (A+j)=some v)->HoldsC fz' l g A
 |[],_,_,_,_,_,_=>by assumption
 |x::xs,b,o,g,A,h,D=>by simp only[HoldsC]at h|-;obtain⟨⟨u,hu,h1,E⟩,G⟩:=h;refine⟨⟨u,D 0 (by simp) u hu,h1,E.mono hle _ _ _ _ (Ren.le_refl _)⟩,HoldsC.copy hle xs b (o+1) g (A+1) G fun j I v J=>?_⟩;have:=D (j+1) (by simpa using I) v (by rw[<-Nat.add_assoc,Nat.add_right_comm];exact J);rwa [show A+1+j=A+(j+1)from by omega]
theorem HoldsR.copy {fz fz':Fz} (hle:fz.le fz'):∀ (rows:List (List AV)) (wd b o g A:Nat),HoldsR fz rows wd b o->(∀j,j<rows.length*wd-> ∀v,fz.cell b (o+j)=some v->fz'.cell g (A+j)=some v)->HoldsR fz' rows wd g A
 |[],_,_,_,_,_,_,_=>by assumption
 |r::D,wd,b,o,g,A,h,G=>by simp only[HoldsR]at h|-;obtain⟨h1,I,J⟩:=h;have hmul:(r::D).length*wd=wd+D.length*wd:=(by rw[List.length_cons,Nat.add_mul];omega);refine⟨h1,HoldsC.copy hle r b o g A I fun j K v E=>G j (by omega) v E,HoldsR.copy hle D wd b (o+wd) g (A+wd) J fun j K v E=>?_⟩;simp_all [Nat.add_assoc]
theorem SimE.grown (h:SimE C V a w fz ρ) {d:Option Nat} (S:∀i,d=some i->i<C.N) {e:TypeId} {wd:Nat} {rows:List (List AV)} {cap:Nat} {cur:Array Value} {pre:List Value} {w':World} (hw:Ext w w') (L:w'.heap[w.heap.size]? =some (.cells cur e (0,0))) (M:pre.length=rows.length*wd) (O:cur.toList.take pre.length=pre) (I:rows.length<=cap) (hm:cap<=maxLen) (U:bZH cur cap wd) (Y:HoldsR (fz.add w.heap.size pre) rows wd w.heap.size 0):Sim C (V.putO d (.own e wd rows)) (a.put d (.slice (some ⟨w.heap.size,0,none⟩) rows.length cap)) w':=by
 have A:=h.fz_new (Nat.le_refl _);have hle:=Fz.le_add (cs:=pre) A.1;have h1:SimE C V a w' (fz.add w.heap.size pre) ρ:=by refine h.extend hw hle (fun c o v D=>?_) (fun c o D=>hw.heap (h.fobj c o D)) (fun c E=>⟨fun o=>?_,rfl⟩);{simp only[Fz.add]at D;split at D;{rename_i E;subst E;simp only[World.cell?,L,Option.isSome_none,Bool.false_eq_true,if_false];grind};{exact hw.cell (h.fcell c o v D)}};{simp only[Fz.add];grind}
 refine⟨fz.add w.heap.size pre,ρ,?_⟩;cases d with
 |none=>exact h1
 |some d=>
  refine h1.putOwn (S d rfl) ?_ (.inr ⟨w.heap.size,cap,cur,rfl,.inl h.bsz,L,I,hm,U,fun o Z=>?_,A.2,fun b W=>?_⟩) (fun q hq G g g' n n' c c' D E=>?_)
  ·grind [Holds]
  ·simp_all [Fz.add,if_true,List.getElem?_eq_none]
  ·exact absurd (h.lt W) (by omega)
  ·cases D
   have K:=fun{b c}=>SimE.lt h (b:=b) (c:=c)
   rw[h.conc_same (w':=w') G (Ren.le_refl _) (fun b j c _ E=>hw.block c (K E))]at E
   cases J:V.at q<;>rw[J]at G<;>simp[aG]at G
   rcases h.tips q _ _ _ J with⟨x1,_⟩|⟨x,_,_,x1,_,x3,_⟩
   ·rw[E]at x1;cases x1
   grind
theorem pO (w:World) (ob:Obj):Ext w (w.drew.alloc ob):=(Ext.drawn w _ (Nat.le_succ _)).trans (Ext.alloc w.drew ob)
theorem nK (w:World) (ob:Obj):(w.drew.alloc ob).heap[w.heap.size]? =some ob:=heap_alloc_new w.drew ob
end Go.Aw
end
