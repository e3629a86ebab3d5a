/- Calls; every operation. -/
import Derived.Test.YtackjebfmbnkbaaGreatDoorP04
set_option linter.unusedSimpArgs false
set_option linter.unusedVariables false
set_option linter.unusedSectionVars false
section
namespace Go.Aw
variable [GL]
variable {P:Program} {C:Ctx} {V:View} {a:Act} {w:World} {fz:Fz} {ρ:Ren} {o:Oper} {Q:Exit->Act->World->Prop}
theorem aVO (h:SimE C V a w fz ρ) {t e:TypeId} {ps:Array (Nat×Operand)} (A:o.op=.buildSlice t 0 ps) (G:P.underlying t=some (.slice e)) {i:TypeInfo} (hi:P.info? e=some i) {E:Eff} (he:aJH e i.size (ps.toList.map fun p=>V.ev p.2)=some E) (I:∀i,o.dst=some i->i<C.N):cI P C V a w o E:=by simp only[aJH]at he;split at he;{rename_i J;cases he;have D:ps= #[]:=(by have:=J.2;simp only[List.isEmpty_iff,List.map_eq_nil_iff]at this;exact Array.toList_eq_nil_iff.1 this);subst D;intro Q;refine cP (v:=.slice (some ⟨w.heap.size,0,none⟩) 0 0) (w':=w.alloc (.cells #[] e)) ?_ (h.grown I (pre:=[]) (cur:=#[]) (cap:=0) (Ext.alloc w _) (heap_alloc_new w _) (by simp) (by simp) (by simp) (by simp) ⟨by simp,by simp⟩ (by simp[HoldsR]));simp[execOp,A,Instr.buildSlice,run_underlying G,sizeOf,typeInfo,hi,aPK,Instr.fill,newRow]};{cases he}
theorem bCB (h:SimE C V a w fz ρ) {t e:TypeId} {n:Nat} {ps:Array (Nat×Operand)} (Y:o.op=.buildSlice t n ps) (ht:P.underlying t=some (.slice e)) {i:TypeInfo} {z:Value} (hi:P.info? e=some i) (hz:i.zero=some z) {ef:Eff} (he:aPM e i.size z.cells.toList n ps.toList (ps.toList.map fun p=>V.ev p.2)=some ef) (hd:∀i,o.dst=some i->i<C.N):cI P C V a w o ef:=by
 simp only[aPM,aGD,List.map_map]at he;split at he
 ·rename_i hc;obtain⟨J,Z,aa,K,ab⟩:=hc;have ac:z.cells.size=i.size:=(by simpa using aa);split at he
  ·rename_i l hl;cases he;have ad:sH (fun j=>some (j*i.size,i.size)) ps.toList=some (ps.toList.map fun p=>(p.1*i.size,i.size,p.2)):=(by generalize ps.toList=L;induction L with|nil=>rfl|cons p L ih=>simp[sH,ih]);have M:=bMT ab;let base:Array Value:=(Array.range (n*i.size)).map (fun j=>z.cells[j% z.cells.size]!)
   have D:base.toList=(List.replicate n z.cells.toList).flatten:=(by show((Array.range (n*i.size)).map (fun j=>z.cells[j% z.cells.size]!)).toList=_;rw[<-ac];exact kH z.cells n);obtain⟨A,hf,h1,h2,hlen⟩:=aFH (fz:=fz) V a (ρ:=bT) (fun j=>some (j*i.size,i.size)) ps.toList _ ad (fun p hp=>(h.ev p.2).noref _ _ _ _ (M _ (List.mem_map.2 ⟨p,hp,rfl⟩)))
    ((List.replicate n (z.cells.toList.map AV.val)).flatten) l base (by rw[D,iW];exact HoldsL.vals _) (fun u hu=>by
     rw[D]at hu
     obtain⟨l',af,ag⟩:=List.mem_flatten.1 hu
     have:=List.eq_of_mem_replicate af
     subst this
     exact List.all_eq_true.1 K u ag) (by simpa[Function.comp_def]using hl)
   have O:l.length=n*i.size:=(by rw[hlen,iW,List.length_map,<-D];simp[base]);intro Q;have S:(Instr.buildSlice t n (ps.map fun(i,x)=>(i,a.eval x))).run P w=.ok (.slice (some ⟨w.heap.size,0,none⟩) n n) (w.alloc (.cells A e)):=(by by_cases E:n*i.size=0;{have G:Instr.fill (fun j=>some (j*i.size,i.size)) ((Array.range (n*i.size)).map (fun j=>(#[]:Array Value)[j%(#[]:Array Value).size]!)) (ps.map fun(i,x)=>(i,a.eval x)).toList=some A:=(by have ah:base= #[]:=(by simp[base,E,aPK]);rw[ah]at hf;simpa[E,aPK]using hf);simp only[E]at G;simp[Instr.buildSlice,run_underlying ht,sizeOf,typeInfo,hi,E,newRow];simp at G;simp[G]};{exact run_buildSlice w t e n _ A i z ht hi hz (by simpa using J) E (by simpa[base]using hf)});have I:(chunk i.size n l).length=n:=(by simp[chunk]);have U:=h.fz_new (Nat.le_refl _);have W:A.toList.length=n*i.size:=(by rw[h1.len];exact O);have hR:HoldsR (fz.add w.heap.size A.toList) (chunk i.size n l) i.size w.heap.size 0:=(by refine HoldsR.chunk (vs:=A.toList) (h1.mono (Fz.le_add U.1) _ _ _ _ (Ren.le_refl _)) h2 O (fun j v hv=>?_);simp only[Fz.add,if_true];exact hv);have hg:=h.grown hd (e:=e) (wd:=i.size) (rows:=chunk i.size n l) (cap:=n) (cur:=A) (pre:=A.toList) (Ext.alloc w (.cells A e)) (heap_alloc_new w _) (by rw[W,I]) (List.take_length) (by rw[I];exact Nat.le_refl _) (Nat.le_trans (Nat.le_trans (Nat.le_mul_of_pos_right n Z) J) (by decide)) ⟨by simpa using W,h2⟩ hR;rw[I]at hg;exact cP (v:=.slice (some ⟨w.heap.size,0,none⟩) n n) (w':=w.alloc (.cells A e)) (by simp[execOp,Y,S]) hg
  {cases he}
 {cases he}
theorem bLL (h:SimE C V a w fz ρ) {c x y:Operand} (A:o.op=.pick c x y) {E:Eff} (he:bKF [V.ev c,V.ev x,V.ev y]=some E) (G:∀i,o.dst=some i->i<C.N):cI P C V a w o E:=by have D:=h.ev c;unfold bKF at he;split at he;{rename_i b K yv heq;simp only[List.cons.injEq,and_true]at heq;obtain⟨e1,I,J⟩:=heq;rw[e1]at D;simp only[Holds]at D;subst I;subst J;cases he;refine aF h (v:=if b then a.eval x else a.eval y) (by simp[execOp,A,D,asBool]) G ?_ ?_;{cases b;{exact(h.ev y).dem};{exact(h.ev x).dem}};{cases b;{exact cV _};{exact cV _}}};{cases he}
theorem bGF (h:SimE C V a w fz ρ) {mx:Bool} {x y:Operand} {A:Array TypeId} (D:o.op=.call {callee:=.builtin (if mx then .max else .min),args:=#[x,y],argTypes:=A}) {J:Eff} (he:aMm mx [V.ev x,V.ev y]=some J) (K:∀i,o.dst=some i->i<C.N):cI P C V a w o J:=by have E:=h.ev x;have G:=h.ev y;unfold aMm at he;split at he;{rename_i j n k m heq;simp only[List.cons.injEq,and_true]at heq;obtain⟨e1,L⟩:=heq;rw[e1]at E;rw[L]at G;simp only[Holds]at E G;split at he;{rename_i I;subst I;cases he;refine aF h (v:=.int j (if mx then(if m>n then m else n)else(if m<n then m else n))) ?_ K (by simp only[Holds]) rfl;cases mx<;>simp[execOp,D,resolve,invoke,builtin,Builtin.max_,Builtin.min_,Builtin.max2,Builtin.min2,E,G]};{cases he}};{cases he}
theorem bUA (h:SimE C V a w fz ρ) {x y z u:Operand} {A:Array TypeId} (D:o.op=.call {callee:=.builtin .max,args:=#[x,y,z,u],argTypes:=A}) {K:Eff} (he:cLX [V.ev x,V.ev y,V.ev z,V.ev u]=some K) (L:∀i,o.dst=some i->i<C.N):cI P C V a w o K:=by have E:=h.ev x;have G:=h.ev y;have I:=h.ev z;have hu:=h.ev u;unfold cLX at he;split at he;{rename_i j M k O l S m U heq;simp only[List.cons.injEq,and_true]at heq;obtain⟨e1,W,Y,Z⟩:=heq;rw[e1]at E;rw[W]at G;rw[Y]at I;rw[Z]at hu;simp only[Holds]at E G I hu;split at he;{rename_i J;obtain⟨rfl,rfl,rfl⟩:=J;cases he;refine aF h (v:=.int j (mx2 (mx2 (mx2 M O) S) U)) ?_ L (by simp only[Holds]) rfl;simp[execOp,D,resolve,invoke,builtin,Builtin.max_,Builtin.max2,E,G,I,hu,mx2]};{cases he}};{cases he}
def bDM (w:World):Fz:={cell:=fun c o=>w.cell? ⟨c,o,none⟩,obj:=fun c=>w.heap[c]?}
theorem SimE.le_full (h:SimE C V a w fz ρ):fz.le (bDM w):=⟨h.fcell,h.fobj⟩
theorem bWW (w:World):sK (bDM w) w:=⟨fun _ _ _ h=>h,fun _ _ h=>h⟩
structure Shows (F fz:Fz) (w:World) (ρ:Ren):Prop where
 le:fz.le F
 cell:∀b c o v,ρ b=some c->w.cell? ⟨c,o,none⟩=some v->F.cell c o=some v
 obj:∀b c o,ρ b=some c->w.heap[c]? =some o->F.obj c=some o
theorem Shows.cells {F fz:Fz} {w:World} {ρ:Ren} (h:Shows F fz w ρ) {b c:Nat} (A:ρ b=some c) {cur:Array Value} {e:TypeId} (D:w.heap[c]? =some (.cells cur e (0,0))) (j:Nat) (v:Value) (E:cur.toList[j]? =some v):F.cell c j=some v:=by refine h.cell b c j v A ?_;simp_all [World.cell?,Option.isSome_none,Bool.false_eq_true,if_false]
theorem SimE.shows_full (h:SimE C V a w fz ρ):Shows (bDM w) fz w ρ:=⟨h.le_full,fun _ _ _ _ _ e=>e,fun _ _ _ _ e=>e⟩
mutual
theorem Rsv.holds (h:SimE C V a w fz ρ) {F:Fz} (G:Shows F fz w ρ) {g:Nat->Option Blk} (L:∀b k,g b=some k->V.hp b=some k):∀ {x y:AV},Rsv g x y-> ∀v,Holds fz x ρ v->Holds F y bT v
 |_,_,.closed hc,v,A=>(A.mono G.le _ _ _ _ (Ren.le_refl _)).noref _ _ _ _ hc
 |_,_,.unk,v,A=>by simp[Holds]
 |_,_,.own,v,A=>by (have:=A.mono G.le _ _ _ _ (Ren.le_refl _);assumption)|_,_,.fx,v,A=>by (have:=A.mono G.le _ _ _ _ (Ren.le_refl _);simp only[Holds]at this|-;grind)|_,_,.nil,v,A=>by simp_all [Holds,Nat.le_refl]|_,_,.agg I,v,A=>by (simp only[Holds]at A|-;obtain⟨cs,e,A⟩:=A;exact⟨cs,e,RsvL.holds h G L I _ A⟩)|_,_,.tup I,v,A=>by (simp only[Holds]at A|-;obtain⟨cs,e,A⟩:=A;exact⟨cs,e,RsvL.holds h G L I _ A⟩)|_,_,.clo I,v,A=>by (simp only[Holds]at A|-;obtain⟨cs,e,A⟩:=A;exact⟨cs,e,RsvL.holds h G L I _ A⟩)|_,_,.ifc hx,v,A=>by (simp only[Holds]at A|-;obtain⟨u,e,A⟩:=A;exact⟨u,e,Rsv.holds h G L hx _ A⟩)|_,_,.ptr (b:=b) (off:=off) (e:=e) (cs:=cs) (cs':=cs') S I,v,A=>by (simp only[Holds]at A|-;obtain⟨c,D,rfl⟩:=A;obtain⟨c',E,_,⟨cur,J,M,K⟩,_⟩:=h.hp _ _ (L _ _ S);rw[D]at E;cases E;have hH:=RsvL.holds h G L I _ M;refine⟨c,0,by simp,?_⟩;simp only[HoldsR,true_and,and_true];refine HoldsC.of_get _ _ _ fun j x O=>?_;obtain⟨u,hu,Z⟩:=hH.get _ _ _ j x O;exact⟨u,by rw[Nat.zero_add];exact(G.cells D) J j u hu,K u (List.mem_of_getElem? hu),Z⟩)|_,_,.vec (b:=b) (w:=wd) (off:=off) (n:=n) (cap:=cap) (e:=e) (cs:=cs) (cs':=cs') S I af U,v,A=>by (simp only[Holds]at A|-;obtain⟨c,D,rfl⟩:=A;obtain⟨c',E,_,⟨cur,J,M,K⟩,_⟩:=h.hp _ _ (L _ _ S);rw[D]at E;cases E;have hH:=RsvL.holds h G L I _ M;have hlen:cs'.length=cs.length:=(by rw[<-hH.len,M.len]);have W:(chunk wd n (cs'.drop off)).length=n:=(by simp[chunk]);rw[W];refine⟨_,_,rfl,U,.inr ⟨c,off,rfl,?_⟩⟩;refine HoldsR.of_get _ _ _ _ fun i r Y=>?_;simp only[Aw.chunk,List.getElem?_map]at Y;cases hi:(List.range n)[i]? with|none=>simp_all|some i'=>rw[hi]at Y;obtain⟨aa,he⟩:=List.getElem?_eq_some_iff.1 hi;simp only[List.getElem_range]at he;subst he;simp at Y;subst Y;have ab:i<n:=(by simpa using aa);have hmul:i*wd+wd<=n*wd:=(by have:=Nat.mul_le_mul_right wd (show i+1<=n from ab);rw[Nat.add_mul]at this;omega);refine⟨by simp;omega,HoldsC.of_get _ _ _ fun j x O=>?_⟩;rw[List.getElem?_take]at O;split at O;{rw[List.getElem?_drop]at O;obtain⟨u,hu,Z⟩:=hH.get _ _ _ _ x O;exact⟨u,(G.cells D) J _ u hu,K u (List.mem_of_getElem? hu),Z⟩};{cases O})|_,_,.mapr (b:=b) (ks:=ks) (vs:=vs) (vs':=vs') S I,v,A=>by simp only[Holds]at A|-;obtain⟨c,D,rfl⟩:=A;obtain⟨c',E,_,⟨es,clock,hm,ac,ad,_⟩,_⟩:=h.hp _ _ (L _ _ S);rw[D]at E;cases E;exact .inr ⟨c,es,clock,rfl,G.obj _ _ _ D hm,ac,RsvL.holds h G L I _ ad⟩
theorem RsvL.holds (h:SimE C V a w fz ρ) {F:Fz} (D:Shows F fz w ρ) {g:Nat->Option Blk} (E:∀b k,g b=some k->V.hp b=some k):∀ {l G:List AV},RsvL g l G-> ∀vs,HoldsL fz l ρ vs->HoldsL F G bT vs
 |_,_,.nil,vs,A=>by assumption
 |_,_,.cons I J,vs,A=>by simp only[HoldsL]at A|-;obtain⟨v,r,e,h1,K⟩:=A;exact⟨v,r,e,Rsv.holds h D E I v h1,RsvL.holds h D E J r K⟩
end
mutual
theorem Rsv.holds_noref {g:Nat->Option Blk}:∀ {x y:AV},Rsv g x y->noref x=true-> ∀v,Holds fz x ρ v->Holds fz y bT v
 |_,_,.closed G,_,v,A=>A.noref _ _ _ _ G
 |_,_,.unk,_,v,A=>by simp[Holds]
 |_,_,.own,_,v,A=>by assumption
 |_,_,.fx,_,v,A=>by (simp only[Holds]at A|-;grind)|_,_,.nil,_,v,A=>by simp_all [Holds,Nat.le_refl]|_,_,.agg E,D,v,A=>by (simp only[Aw.noref]at D;simp only[Holds]at A|-;obtain⟨cs,e,A⟩:=A;exact⟨cs,e,RsvL.holds_noref E D _ A⟩)|_,_,.tup E,D,v,A=>by (simp only[Aw.noref]at D;simp only[Holds]at A|-;obtain⟨cs,e,A⟩:=A;exact⟨cs,e,RsvL.holds_noref E D _ A⟩)|_,_,.clo E,D,v,A=>by (simp only[Aw.noref]at D;simp only[Holds]at A|-;obtain⟨cs,e,A⟩:=A;exact⟨cs,e,RsvL.holds_noref E D _ A⟩)|_,_,.ifc I,D,v,A=>by simp only[Aw.noref]at D;simp only[Holds]at A|-;obtain⟨u,e,A⟩:=A;exact⟨u,e,Rsv.holds_noref I D _ A⟩
 |_,_,.ptr _ _,D,_,_=>by grind [Aw.noref]
 |_,_,.vec _ _ _ _,D,_,_=>by grind [Aw.noref]
 |_,_,.mapr _ _,D,_,_=>by grind [Aw.noref]
theorem RsvL.holds_noref {g:Nat->Option Blk}:∀ {l E:List AV},RsvL g l E->aW l=true-> ∀vs,HoldsL fz l ρ vs->HoldsL fz E bT vs
 |_,_,.nil,_,vs,A=>by assumption
 |_,_,.cons G I,D,vs,A=>by simp only[aW,Bool.and_eq_true]at D;simp only[HoldsL]at A|-;obtain⟨v,r,e,h1,J⟩:=A;exact⟨v,r,e,Rsv.holds_noref G D.1 v h1,RsvL.holds_noref I D.2 r J⟩
end
theorem aFV (h:SimE C V a w fz ρ) {f:Operand} {fn:FuncId} {G:List AV} (D:callee (V.ev f)=some (fn,G)): (fn<YB/\ ∃ps cs:Array Value,a.eval f=.func (.func fn) ps cs/\HoldsL fz (lE (V.ev f)) ρ ps.toList/\HoldsL fz G ρ cs.toList)\/ (YB<=fn/\a.eval f=.func (.yield (fn-YB)) #[] #[]/\G=[]/\lE (V.ev f)=[]):=by have E:=h.ev f;unfold callee at D;split at D;{(rename_i M first cs heq);split at D;{rename_i A;cases D;rw[heq]at E;simp only[Holds]at E;(have h1:first= #[]:=by simpa using A.1);have J:cs= #[]:=(by simpa using A.2.1);subst h1;subst J;exact .inl ⟨A.2.2,#[],#[],E,by simp[heq,lE,HoldsL],by simp[HoldsL]⟩};{cases D}};{(rename_i l first cs heq);split at D;{rename_i A;cases D;rw[heq]at E;simp only[Holds]at E;(have h1:first= #[]:=by simpa using A.1);have J:cs= #[]:=(by simpa using A.2);subst h1;subst J;exact .inr ⟨Nat.le_add_right _ _,by rw[E,Nat.add_sub_cancel_left],rfl,by simp[heq,lE]⟩};{cases D}};{rename_i M cs heq;split at D;{rename_i I;cases D;rw[heq]at E;simp only[Holds]at E;obtain⟨vs,K,L⟩:=E;exact .inl ⟨I,#[],vs,K,by simp[heq,lE,HoldsL],L⟩};{cases D}};{rename_i M O l heq;split at D;{rename_i I;cases D;rw[heq]at E;simp only[Holds]at E;obtain⟨vs,K,L⟩:=E;exact .inl ⟨I,vs,#[],K,by simpa[heq,lE]using L,by simp[HoldsL]⟩};{cases D}};{cases D}
theorem aLV (h:SimE C V a w fz ρ) {f:Operand} {fn:FuncId} {A:List AV} (D:callee (V.ev f)=some (fn,A)) (E:¬YB<=fn): ∃ps cs:Array Value,a.eval f=.func (.func fn) ps cs/\HoldsL fz (lE (V.ev f)) ρ ps.toList/\HoldsL fz A ρ cs.toList:=by rcases aFV h D with h1|h1;{exact h1.2};omega
theorem cGB {a a':Act} {w:World} {ρ ρ':Ren} {b j:Nat} (h:ρ' b=ρ b):bM a w ρ' (.c b j)=bM a' w ρ (.c b j):=by simp only[bM,h]
theorem bRN {H:Nat->Option Blk} {p:Pl} (h:aG ((hpV H).at p)=true):∃b j k,p=.c b j/\H b=some k/\(hpV H).at p=k.at j:=by cases p with|t i=>grind [View.at,hpV,aG]|c b j=>simp only[View.at,hpV]at h|-;cases hk:H b with|none=>simp_all [aG]|some k=>grind
theorem SimE.callM (h:SimE C V a w fz ρ) {us:List Nat} {g:Nat->Option Blk} (hg:∀b k,g b=some k->V.hp b=some k) (bx:∀b,us.contains b=true->g b=none->V.hp b=none) {bs H:List (Nat×Blk)} {ts:List AV} {r:AV} (bz:∀b k,lk bs b=some k->us.contains b=true) (hH:∀b k,lk H b=some k->g b=some k) (an:∀b k,lk bs b=some k->lk H b=none->g b=none/\(b<1000\/2000<=b)) (b9:∀b k,lk H b=some k-> ∃k',lk bs b=some k') (b1:∀b k,lk H b=some k->k.within (H.map (·.1))) (b2:bD (H.map (·.1)) ts=true) {X:Array Value->World->(Ending->World->Prop)->Prop} (hX:∀ (vs:Array Value) (w:World) (R R':Ending->World->Prop),(∀e w',R e w'->R' e w')->X vs w R->X vs w R') {args:Array Value} (a4:HoldsL fz ts ρ args.toList) (bd:∀A,(∀b k,lk H b=some k->A b=ρ b)->sK fz w->GLok fz->Mem fz A w (lk H)->bPA (lk H) A->HoldsL fz ts A args.toList->X args w (cHM fz A w (lk H) r (lk bs))): X args w fun e w'=>∃v fz' ρ',e=.returned v/\SimE C (V.setBs bs) a w' fz' ρ'/\Holds fz' r ρ' v/\fz.le fz'/\Ren.le ρ ρ':=by
 let A:Ren:=fun b=>if(lk H b).isSome then ρ b else none
 have ao:∀b k,lk H b=some k->V.hp b=some k:=fun b k e=>hg b k (hH b k e);have a2:∀b k,lk H b=some k->A b=ρ b:=fun b k e=>by grind
 have a5:∀b,lk H b=none->A b=none:=fun b e=>by grind
 have G:∀b c,A b=some c->ρ b=some c/\ ∃k,lk H b=some k:=by intro b c e;cases hk:lk H b with|none=>simp_all|some k=>simp_all
 have U:∀b,(H.map (·.1)).contains b=true->A b=ρ b:=by intro b J;obtain⟨k,hk⟩:=jY J;simp[*]
 have I:∀p,aG ((hpV (lk H)).at p)=true->(hpV (lk H)).at p=V.at p/\bM aMD w A p=bM a w ρ p/\ ∃b j k,p=.c b j/\lk H b=some k:=by grind [hp,bRN,cGB,View.at,hpV]
 have a6:Mem fz A w (lk H):=by refine⟨fun b k hk=>?_,a5,fun b b' c h1 E=>h.inj b b' c (G b c h1).1 (G b' c E).1,fun p e wd rows hp=>?_,fun p q hp hq g g' n n' c Z h1 E h3=>?_⟩;{obtain⟨c,hc,_,E,h3⟩:=h.hp b k (ao b k hk);refine⟨c,by simp[*],?_,h3⟩;have hw:=b1 b k hk;cases k with|cells e cs=>obtain⟨cur,x1,x2,x3⟩:=E;exact⟨cur,x1,x2.within U _ _ hw,x3⟩|map ks vs=>obtain⟨es,clock,x1,x2,x3,x4⟩:=E;exact⟨es,clock,x1,x2,x3.within U _ _ hw,x4⟩|mapd ks vs=>obtain⟨es,clock,x1,x2,x3,x4⟩:=E;exact⟨es,clock,x1,x2,x3.within U _ _ hw,x4⟩|hid l o=>exact E};{obtain⟨e1,e2,_⟩:=I p (by rw[hp];rfl);rw[e2];rcases h.tips p e wd rows (by simp_all)with hh|⟨g,cap,cur,x1,x2,x3,x4,x5,x6,x7,x8,x9⟩;{exact .inl hh};{exact .inr ⟨g,cap,cur,x1,x3,x4,x5,x6,x7,x8,fun b J=>x9 b (G b g J).1⟩}};{obtain⟨e1,e2,_⟩:=I p hp;obtain⟨e3,e4,_⟩:=I q hq;exact h.tipinj p q (by simp_all) (by simp_all) g g' n n' c Z (by simp_all) (by simp_all) h3}
 have bj:∀c,rP A w (lk H) c->C.B<=c\/C.Mu c=true:=by rintro c (⟨b,J⟩|⟨p,Y,n,cap,W,O,rfl⟩);{obtain⟨e1,k,hk⟩:=G b c J;obtain⟨Z,al,hB,_⟩:=h.hp b k (ao b k hk);simp_all};{obtain⟨e1,e2,_⟩:=I p W;rw[e2]at O;cases hx:V.at p<;>rw[e1,hx]at W<;>simp[aG]at W;rcases h.tips p _ _ _ hx with⟨y1,_⟩|⟨g2,_,_,y1,y2,_⟩;{rw[O]at y1;cases y1};grind}
 have bk:∀b c,ρ b=some c->lk H b=none-> ¬rP A w (lk H) c:=by rintro b c J hk (⟨b0,a7⟩|⟨p,Y,n,cap,W,O,rfl⟩);{obtain⟨e1,k,cg⟩:=G b0 c a7;have:=h.inj b b0 c J e1;simp_all};{obtain⟨e1,e2,_⟩:=I p W;rw[e2]at O;cases hx:V.at p<;>rw[e1,hx]at W<;>simp[aG]at W;rcases h.tips p _ _ _ hx with⟨y1,_⟩|⟨g2,_,_,y1,_,_,_,_,_,_,_,y9⟩;{rw[O]at y1;cases y1};grind}
 have a3:∀p,aG (V.at p)=true->(∀b j k,p=.c b j->lk H b=some k->False)-> ∀Y n cap,bM a w ρ p=.slice (some Y) n cap-> ¬rP A w (lk H) Y.block:=by rintro p W ci Y n cap O (⟨b0,a7⟩|⟨q,g2,n2,bl,hq,bm,b4⟩);{obtain⟨e1,_⟩:=G b0 _ a7;cases hx:V.at p<;>rw[hx]at W<;>simp[aG]at W;rcases h.tips p _ _ _ hx with⟨y1,_⟩|⟨g3,_,_,y1,_,_,_,_,_,_,_,y9⟩;{rw[O]at y1;cases y1};grind};{obtain⟨e1,e2,b,j,k,rfl,hk⟩:=I q hq;rw[e2]at bm;have:=h.tipinj p (.c b j) W (by rw[<-e1];exact hq) Y g2 n n2 cap bl O bm b4.symm;simp_all}
 have a8:=fun{b c}=>SimE.lt h (b:=b) (c:=c);have bn:bPA (lk H) A:=by intro b c k J hk;obtain⟨Z,al,_⟩:=h.hp b k (ao b k hk);rw[a2 b k hk,al,h.br b c Z J al]
 refine hX _ _ _ _ ?_ (bd A a2 ⟨h.fcell,h.fobj⟩ (h.gl.mono h.f0) a6 bn (a4.within U _ _ b2));rintro e w' ⟨v,fz',ρ',rfl,L,hle,bo,af,aa,a9,bw,ab,hr⟩;let K:Ren:=fun b=>if(lk bs b).isSome then ρ' b else ρ b
 have aj:∀b k,lk bs b=some k->K b=ρ' b:=fun b k e=>by grind
 have M:∀b,lk bs b=none->K b=ρ b:=fun b e=>by grind
 have b5:∀b,lk bs b=none->lk H b=none:=by intro b J;cases hk:lk H b with|none=>rfl|some k=>grind
 have ba:∀b k,lk bs b=some k->lk H b=none->V.hp b=none:=fun b k h1 E=>bx b (bz b k h1) (an b k h1 E).1;have hA:Ren.le ρ K:=by intro b c J;cases hk:lk bs b with|none=>simp[*]|some k=>rw[aj b k hk];cases S:lk H b with|none=>rw[h.dom b (ba b k hk S)]at J;cases J|some k2=>exact a9 b c (by simp[*])
 have bq:Ren.le ρ' K:=by intro b c J;cases hk:lk bs b with|none=>rw[aa.dom b hk]at J;cases J|some k=>simp[*]
 have hblk:∀b c,ρ b=some c->lk bs b=none->w'.heap[c]? =w.heap[c]? /\(∀o,fz'.cell c o=fz.cell c o)/\fz'.obj c=fz.obj c:=by intro b c J hk;have hm:=bk b c J (b5 b hk);exact⟨L.block c (a8 J) hm,af c (a8 J) hm⟩
 have bb:∀b,(V.setBs bs).hp b=match lk bs b with|some k=>some k|none=>V.hp b:=qY V bs
 have ac:∀b k c,lk bs b=some k->ρ' b=some c->ρ b=some c\/w.heap.size<=c\/rP A w (lk H) c:=by grind
 have ap:∀p,aG ((V.setBs bs).at p)=true->(((hpV (lk bs)).at p=(V.setBs bs).at p/\bM aMD w' ρ' p=bM a w' K p/\aG ((hpV (lk bs)).at p)=true)\/
  ((V.setBs bs).at p=V.at p/\bM a w' K p=bM a w ρ p/\(∀b j k,p=.c b j->lk H b=some k->False))):=by
  intro p hp
  cases p with
  |t i=>
   refine .inr ⟨?_,rfl,fun b j k e=>by cases e⟩
   simp[View.at,setBs_tm]
  |c b j=>
   cases hk:lk bs b with
    |some k=>
     have e1:(hpV (lk bs)).at (.c b j)=(V.setBs bs).at (.c b j):=by simp only[View.at,hpV,bb,hk]
     grind [cGB]
    |none=>
     grind [View.at,bM,aBO]
 have aq:∀p,aG (V.at p)=true->(∀b j k,p=.c b j->lk H b=some k->False)-> ∀Y n cap,bM a w ρ p=.slice (some Y) n cap->Y.block<w.heap.size:=by intro p W _ Y n cap O;cases hx:V.at p<;>rw[hx]at W<;>simp[aG]at W;rcases h.tips p _ _ _ hx with⟨y1,_⟩|⟨g3,_,_,y1,_,y3,_⟩;{rw[O]at y1;cases y1};grind
 have bt:SimE C (V.setBs bs) a w' fz' K:=by
  refine{h with
   tm:=fun t=>by rw[setBs_tm];exact(h.tm t).mono hle _ _ _ _ hA,hp:=fun b k hk=>?_,dom:=fun b J=>?_,inj:=fun b b' c h1 E=>?_,fcell:=bo.1,fobj:=bo.2,f0:=Fz.le_trans h.f0 hle,
   f1:=fun c hc a1=>?_,tips:=fun p e wd rows hp=>?_,tipinj:=fun p q hp hq g g' n n' c Z h1 E h3=>?_,os:=L.os.trans h.os,tape:=L.tape.trans h.tape,output:=L.output.trans h.output,
   bsz:=Nat.le_trans h.bsz L.size,old:=fun c hc a1=>?_,keep:=fun b c Z h1 E=>?_,br:=fun b c Z h1 E=>?_}
  {rw[bb]at hk;cases D:lk bs b with|some k1=>rw[D]at hk;cases hk;obtain⟨c,hc,h1,E⟩:=aa.hp b _ D;refine⟨c,by rw[aj b _ D];exact hc,?_,h1.mono (Fz.le_refl _) bq (fun _ h=>h),E⟩;rcases ac b _ c D hc with x|x|x;{cases S:V.hp b with|none=>rw[h.dom b S]at x;cases x|some k2=>obtain⟨Z,al,hB,_⟩:=h.hp b k2 S;rw[x]at al;cases al;exact hB};{exact .inl (Nat.le_trans h.bsz x)};{exact bj c x}|none=>rw[D]at hk;obtain⟨c,hc,hB,E,h3,h4⟩:=h.hp b k hk;obtain⟨x1,x2,x3⟩:=hblk b c hc D;exact⟨c,by simp[*],hB,E.mono hle hA (fun o W=>by simp[*]),fun o=>(x2 o).trans (h3 o),x3.trans h4⟩};{rw[bb]at J;cases D:lk bs b with|some k1=>simp_all|none=>rw[D]at J;rw[M b D];exact h.dom b J};{have mixed:∀b b' k,lk bs b=some k->lk bs b'=none->ρ' b=some c->ρ b'=some c->b=b':=(by intro b b' k hk cm x1 x2;rcases ac b k c hk x1 with y|y|y;{exact h.inj b b' c y x2};{have:=a8 x2;omega};grind);cases D:lk bs b with|some k1=>(rw[aj b _ D]at h1;cases ar:lk bs b' with|some k2=>rw[aj b' _ ar]at E;exact aa.inj b b' c h1 E|none=>grind)|none=>rw[M b D]at h1;cases ar:lk bs b' with|some k2=>grind|none=>rw[M b' ar]at E;exact h.inj b b' c h1 E};{have hm:¬rP A w (lk H) c:=fun hm=>(by grind);have:=af c (Nat.lt_of_lt_of_le hc h.bsz) hm;exact⟨fun o v e=>(h.f1 c hc a1).1 o v (by simp_all),fun o e=>(h.f1 c hc a1).2 o (by simp_all)⟩};{rcases ap p (by rw[hp];rfl)with⟨e1,e2,e3⟩|⟨e1,e2,e3⟩;{rw[<-e2];rcases aa.tips p e wd rows (by simp[*])with hh|⟨Y,cap,cur,x1,x3,x4,x5,x6,x7,x8,x9⟩;{exact .inl hh};{have b7:=ab Y (.inr ⟨p,_,_,_,e3,x1,rfl⟩);refine .inr ⟨Y,cap,cur,x1,?_,x3,x4,x5,x6,x7,x8,fun b J=>?_⟩;{exact b7.elim (fun x=>.inl (Nat.le_trans h.bsz x)) (bj Y)};{cases D:lk bs b with|some k1=>simp_all|none=>grind}}};{rw[e2];rcases h.tips p e wd rows (by simp_all)with hh|⟨Y,cap,cur,x1,x2,x3,x4,x5,x6,x7,x8,x9⟩;{exact .inl hh};{have W:aG (V.at p)=true:=(by rw[<-e1,hp];rfl);have hm:=a3 p W e3 _ _ _ x1;have hl:=cE x3;have hs:=af Y hl hm;refine .inr ⟨Y,cap,cur,x1,x2,by rw[L.block Y hl hm];exact x3,x4,x5,x6,fun o W=>(hs.1 o).trans (x7 o W),hs.2.trans x8,fun b J=>?_⟩;grind}}}
  ·have mixed:∀p q,((hpV (lk bs)).at p=(V.setBs bs).at p/\bM aMD w' ρ' p=bM a w' K p/\aG ((hpV (lk bs)).at p)=true)->((V.setBs bs).at q=V.at q/\bM a w' K q=bM a w ρ q/\(∀b j k,q=.c b j->lk H b=some k->False))->
    aG ((V.setBs bs).at q)=true-> ∀g g' n n' c Z,bM a w' K p=.slice (some g) n c->bM a w' K q=.slice (some g') n' Z->g.block=g'.block->False:=by
    rintro p q ⟨e1,e2,e3⟩ ⟨f1,f2,f3⟩ hq g g' n n' c Z h1 E h3
    rw[f2]at E
    rw[f1]at hq
    have hm:=a3 q hq f3 g' n' Z E
    have hl:=aq q hq f3 g' n' Z E
    rcases ab g.block (.inr ⟨p,g,n,c,e3,by rw[e2];exact h1,rfl⟩)with x|x
    ·rw[h3]at x;omega
    simp_all
   rcases ap p hp with hx|hx<;>rcases ap q hq with hy|hy;{exact aa.tipinj p q hx.2.2 hy.2.2 g g' n n' c Z (by simp[*]) (by simp[*]) h3};{grind};{grind};{exact h.tipinj p q (by simp_all) (by simp_all) g g' n n' c Z (by simp_all) (by simp_all) h3}
  {have hm:¬rP A w (lk H) c:=fun hm=>(by grind);rw[L.block c (Nat.lt_of_lt_of_le hc h.bsz) hm];exact h.old c hc a1};{cases D:lk bs b with|none=>rw[M b D]at E;exact h.keep b c Z h1 E|some k=>cases S:lk H b with|none=>rw[h.hi b (.inr (an b k D S).2)]at h1;cases h1|some k2=>obtain⟨c0,au,_⟩:=h.hp b k2 (ao b k2 S);have:=hA b c0 au;rw[this]at E;cases E;exact h.keep b c _ h1 au};{cases D:lk bs b with|none=>rw[M b D]at E;exact h.br b c Z h1 E|some k=>cases S:lk H b with|none=>have:=(an b k D S).2;have:=GL.brn b c h1;omega|some k2=>obtain⟨c0,au,_⟩:=h.hp b k2 (ao b k2 S);have:=hA b c0 au;rw[this]at E;cases E;exact h.br b c _ h1 au}
 exact⟨v,fz',K,rfl,bt,hr.mono (Fz.le_refl _) _ _ _ _ bq,hle,hA⟩
theorem bGJ (h:SimE C V a w fz ρ) {f:Operand} {args:Array Operand} {ab:Array TypeId} (ar:o.op=.call {callee:=.value f,args:=args,argTypes:=ab}) {us:List Nat} {g:Nat->Option Blk} (hg:∀b k,g b=some k->V.hp b=some k) (S:∀b,us.contains b=true->g b=none->V.hp b=none) {fn:FuncId} {E:List AV} (hc:callee (V.ev f)=some (fn,E)) {r:AV} {bs H:List (Nat×Blk)} {ts:List AV} (ad:aVG P fn g us (lE (V.ev f)++args.toList.map V.ev++E) r bs H ts) (hd:∀i,o.dst=some i->i<C.N) {ob:Prop}:cI P C V a w o {out:=r,bs:=bs,ob:=ob}:=by obtain⟨U,hH,J,K,W,Y,Z,L⟩:=ad;intro Q;rcases aFV h hc with⟨ae,ps,cs,af,ag,ah⟩|⟨ai,af,rfl,aa⟩;{obtain⟨_,⟨aj,hfn,ak,G⟩,A⟩:=L.resolve_right (fun x=>absurd ae (Nat.not_lt.2 x.1));have D:HoldsL fz (lE (V.ev f)++args.toList.map V.ev++E) ρ (ps++(args.map a.eval)++cs).toList:=(by simp only[Array.toList_append,Array.toList_map];exact(ag.append (h.evL args.toList)).append ah);have hex:(execOp a.eval o).run P w=.ok (.enter fn (ps++(args.map a.eval)++cs)) w:=(by have hb:¬aj.body=none:=(by intro e;rw[e]at G;simp at G);simp_all [execOp,resolve,Deferred.ofValue,invoke,callFunc]);refine qT hex ((h.callM hg S U hH J K W Y (fun _ _ _ _ hm hc=>hc.mono hm) (Z.holds D) fun M _ h1 O h3 h4 h5=>A.2 fz M w _ h1 O h3 h4 h5).mono ?_);rintro e w' ⟨v,fz',ρ',rfl,h1,O,_⟩;exact⟨fz',ρ',h1.putO hd O A.1⟩};{obtain⟨_,A⟩:=L.resolve_left (fun x=>absurd x.1 (Nat.not_lt.2 ai));have D:HoldsL fz (lE (V.ev f)++args.toList.map V.ev++[]) ρ (args.map a.eval).toList:=(by simp only[Array.toList_map,aa,List.nil_append,List.append_nil];exact h.evL args.toList);obtain⟨gf,tmps,assign,body,aq,I⟩:=h.callM hg S U hH J K W Y (fun _ _ _ _ hm ⟨a,b,c,d,x,y⟩=>⟨a,b,c,d,x,y.mono hm⟩) (Z.holds D) fun M _ h1 O h3 h4 h5=>A.2 fz M w _ h1 O h3 h4 h5;have hex:(execOp a.eval o).run P w=.ok (.round (fn-YB) gf tmps assign body) w:=(by simp_all [execOp,resolve,Deferred.ofValue,invoke]);refine aBT hex (by simp) ⟨by simp[Fence.wide],RoundIn.mono I ?_⟩;rintro e w' ⟨v,fz',ρ',rfl,h1,O,_⟩;exact⟨fz',ρ',h1.putO hd O A.1⟩}
theorem SimE.extendO (h:SimE C V a w fz ρ) {w':World} {M:Nat->Prop} (hw:cHQ M w w') {fz':Fz} (hle:fz.le fz') (E:∀c o v,fz'.cell c o=some v->w'.cell? ⟨c,o,none⟩=some v) (L:∀c o,fz'.obj c=some o->w'.heap[c]? =some o) (hold:∀c,c<w.heap.size-> ¬M c->(∀o,fz'.cell c o=fz.cell c o)/\fz'.obj c=fz.obj c) (hB:∀c,M c->C.B<=c\/C.Mu c=true) (G:∀b c,ρ b=some c-> ¬M c) (O:∀p,aG (V.at p)=true-> ∀ad n c,bM a w ρ p=.slice (some ad) n c-> ¬M ad.block):SimE C V a w' fz' ρ:=by
 have I:=fun{b c}=>SimE.lt h (b:=b) (c:=c);have D:∀p,aG (V.at p)=true->bM a w' ρ p=bM a w ρ p:=fun p hp=>
  h.conc_same hp (Ren.le_refl _) (fun b j c _ A=>hw.block c (I A) (G b c A))
 have S:∀c,c<C.B->C.Mu c=false-> ¬M c:=by grind
 refine{h with
  tm:=fun t=>(h.tm t).mono hle _ _ _ _ (Ren.le_refl _),hp:=fun b k hk=>?_,fcell:=E,fobj:=L,f0:=Fz.le_trans h.f0 hle,
  f1:=fun c A J=>?_,tips:=fun p e wd rows hp=>?_,tipinj:=fun p q hp hq g g' n n' c c' U W hg=>?_,
  os:=hw.os.trans h.os,tape:=hw.tape.trans h.tape,output:=hw.output.trans h.output,bsz:=Nat.le_trans h.bsz hw.size,old:=fun c A hm=>?_}
 {obtain⟨c,A,h1,Y,Z,h4⟩:=h.hp b k hk;have:=hold c (I A) (G b c A);exact⟨c,A,h1,Y.mono hle (Ren.le_refl _) (fun o K=>by rw[hw.block c (I A) (G b c A)];exact K),fun o=>(this.1 o).trans (Z o),this.2.trans h4⟩};{have:=hold c (Nat.lt_of_lt_of_le A h.bsz) (S c A J);exact⟨fun o v e=>(h.f1 c A J).1 o v (by simp_all),fun o e=>(h.f1 c A J).2 o (by simp_all)⟩};{have K:aG (V.at p)=true:=(by rw[hp];rfl);rw[D p K];rcases h.tips p e wd rows hp with⟨h1,Y⟩|⟨g,cap,cur,h1,Y,Z,h4,h5,h6,h7,h8,h9⟩;{exact .inl ⟨h1,Y⟩};{have hg:¬M g:=O p K _ _ _ h1;have:=hold g (cE Z) hg;exact .inr ⟨g,cap,cur,h1,Y,by rw[hw.block g (cE Z) hg];exact Z,h4,h5,h6,fun o K=>(this.1 o).trans (h7 o K),this.2.trans h8,h9⟩}};{rw[D p hp]at U;rw[D q hq]at W;exact h.tipinj p q hp hq g g' n n' c c' U W hg};{rw[hw.block c (Nat.lt_of_lt_of_le A h.bsz) (S c A hm)];exact h.old c A hm}
theorem bGI (h:SimE C V a w fz ρ) {f:Operand} {args:Array Operand} {a3:Array TypeId} (a4:o.op=.call {callee:=.value f,args:=args,argTypes:=a3}) {cr:Res} {fn:FuncId} {K:List AV} (hc:callee (V.ev f)=some (fn,K)) (a5:¬YB<=fn) (bk:lE (V.ev f)=[]) {ef:Eff} (he:aUN P cr o.dst (args.toList.head?.bind gK) fn K (args.toList.map V.ev)=some ef) (a7:ef.ob) (hd:∀i,o.dst=some i->i<C.N):cI P C V a w o ef:=by
 obtain⟨ps,cs,a8,bm,a9⟩:=aLV h hc a5;have ba:ps= #[]:=by simp_all [HoldsL,Array.toList_inj]
 subst ba;cases an:args.toList with
 |nil=>
  simp_all [aUN]
 |cons a0 W=>
  rw[an]at he
  simp only[List.map_cons,List.head?_cons,Option.bind_some,aUN]at he
  split at he
  ·rename_i e wd ae hr
   split at he
   ·rename_i rows D
    split at he
    ·rename_i hn
     cases he
     obtain⟨bo,⟨ao,hfn,L,M⟩,ap⟩:=a7
     have af:HoldsL fz (W.map V.ev++K) bT ((W.map a.eval)++cs.toList):=((h.evL W).append a9).noref _ _ _ _ hn
     have hex:(execOp a.eval o).run P w=.ok (.enter fn ((args.map a.eval)++cs)) w:=by
      have E:¬ao.body=none:=by intro e;rw[e]at M;simp at M
      have bb:¬ao.name= "runtime.NumGoroutine":=by intro e;rw[e]at L;simp at L
      simp[execOp,a4,resolve,a8,Deferred.ofValue,invoke,callFunc,hfn,bb,E]
     have bc:(args.map a.eval)++cs=(a.eval a0::(W.map a.eval++cs.toList)).toArray:=by
      apply Array.toList_inj.1
      simp[an]
     have O:=zB h a0
     have bd:Holds fz (.own e wd rows) bT (a.eval a0)/\bOY fz w e wd rows (a.eval a0)/\(∀c,gI (a.eval a0)=some c->(C.B<=c\/C.Mu c=true)/\ ∀b,ρ b≠some c)/\
      (∀p,aG ((V.demP (gK a0)).at p)=true-> ∀ad n c,bM a w ρ p=.slice (some ad) n c->gI (a.eval a0)≠some ad.block):=by
      have S:=h.ev a0
      unfold aNT at D
      split at D
      ·rename_i e' w' r' heq
       split at D
       ·rename_i be
        obtain⟨rfl,rfl⟩:=be
        cases D
        obtain⟨J,rfl⟩:∃J,a0=.tmp J:=by
         cases a0 with
          |tmp J=>exact⟨J,rfl⟩
          |_=>simp[View.ev]at heq
        have aq:V.at (.t J)=.own e' w' rows:=by simpa[View.ev,View.at]using heq
        rw[heq]at S
        have G:=h.tips (.t J) _ _ _ aq
        have ah:bM a w ρ (.t J)=a.eval (.tmp J):=rfl
        rw[ah]at G
        refine⟨by simpa only[Holds]using S,?_,?_,?_⟩
        ·rcases G with hh|⟨g,cap,cur,x1,x2,x3,x4,x5,x6,x7,x8,x9⟩
         ·exact .inl hh
         ·exact .inr ⟨g,cap,cur,x1,x3,x4,x5,x6,x7,x8⟩
        ·intro c U
         rcases G with⟨hh,_⟩|⟨g,cap,cur,x1,x2,x3,x4,x5,x6,x7,x8,x9⟩
         ·rw[hh]at U;simp[gI]at U
         ·rw[x1]at U;simp only[gI,Option.some.injEq]at U;subst U
          exact⟨x2,x9⟩
        ·intro p hp ad n c aj E
         have ar:p≠ .t J/\V.at p=(V.demP (gK (.tmp J))).at p:=by
          simp only[gK,View.demP]at hp|-
          rw[View.at_setAt V (.t J) p _ trivial]at hp|-
          by_cases e:p=.t J
          ·rw[if_pos e,cV]at hp;cases hp
          ·exact⟨e,by rw[if_neg e]⟩
         rcases G with⟨hh,_⟩|⟨g,cap,cur,x1,_⟩
         ·rw[hh]at E;simp[gI]at E
         ·rw[x1]at E;simp only[gI,Option.some.injEq]at E
          exact ar.1 (h.tipinj p (.t J) (by rw[ar.2];exact hp) (by rw[aq];rfl) ad ⟨g,0,none⟩ n rows.length c cap aj x1 E.symm)
       ·cases D
      ·rename_i heq
       cases D
       rw[heq]at S
       simp only[Holds]at S
       rw[S]
       refine⟨by simp only[Holds];exact⟨none,0,rfl,Nat.le_refl _,.inl (by simp)⟩,.inl ⟨rfl,rfl⟩,fun c hc=>by simp[gI]at hc,fun p _ ad n c _ E=>by simp[gI]at E⟩
      ·cases D
     obtain⟨hH,hT,A,ab⟩:=bd
     intro Q
     refine qT hex ?_
     rw[bc]
     refine(ap fz w _ _ ⟨h.fcell,h.fobj⟩ (h.gl.mono h.f0) hH af hT).mono ?_
     rintro en w' ⟨v',fz',rfl,ac,hle,au,ak,bf,al,hblk⟩
     have h1:=O.extendO ac hle au.1 au.2 (fun c hc hm=>ak c hc hm) (fun c hm=>(A c hm).1) (fun b c E hm=>(A c hm).2 b E) (fun p hp ad n c aj hm=>ab p hp ad n c aj hm)
     refine⟨fz',ρ,?_⟩
     show SimE C (((V.demP (gK a0)).setBO none).putO o.dst (.own e wd ae)) _ w' fz' ρ
     simp only[View.setBO]
     cases av:o.dst with
      |none=>exact h1
      |some d=>
       refine h1.putOwn (hd d av) (by simpa only[Holds]using bf) ?_ (fun q hq Y g g' n n' c c' bg Z=>?_)
       ·rcases al with hh|⟨g,cap,cur,x1,x3,x4,x5,x6,x7,x8⟩
        ·exact .inl hh
        ·have I:=hblk g (by rw[x1];rfl)
         refine .inr ⟨g,cap,cur,x1,?_,x3,x4,x5,x6,x7,x8,fun b E=>?_⟩
         ·rcases I with I|I
          ·exact .inl (Nat.le_trans h.bsz I)
          ·exact(A g I).1
         ·rcases I with I|I
          ·have:=h.lt E;omega
          ·exact(A g I).2 b E
       ·have bh:=fun{b c}=>SimE.lt h (b:=b) (c:=c)
        rw[O.conc_same (w':=w') Y (Ren.le_refl _) (fun b j c _ hc=>ac.block c (bh hc) (fun hm=>(A c hm).2 b hc))]at Z
        have I:=hblk g.block (by rw[bg];rfl)
        intro heq
        rcases I with I|I
        ·cases aw:(V.demP (gK a0)).at q<;>rw[aw]at Y<;>simp[aG]at Y
         rcases O.tips q _ _ _ aw with⟨x1,_⟩|⟨y,_,_,x1,_,x3,_⟩
         ·rw[Z]at x1;cases x1
         ·rw[Z]at x1;cases x1
          have:=cE x3
          simp at heq;omega
        ·exact ab q Y g' n' c' Z (by rw[I,heq])
    ·cases he
   ·cases he
  ·cases he
theorem bLT (h:SimE C V a w fz ρ) {f:Operand} {args:Array Operand} {ah:Array TypeId} (M:o.op=.call {callee:=.value f,args:=args,argTypes:=ah}) {cr:Res} {g:Nat->Option Blk} (hg:∀b k,g b=some k->V.hp b=some k) (ai:∀b,cr.us.contains b=true->g b=none->V.hp b=none) {ef:Eff} (he:bST P cr o.dst (args.toList.head?.bind gK) g (V.ev f::args.toList.map V.ev)=some ef) (D:ef.ob) (W:∀i,o.dst=some i->i<C.N):cI P C V a w o ef:=by simp only[bST]at he;split at he;{rename_i fn Y J;split at he;rotate_left;{rename_i x l _;cases he;obtain⟨H,ts,D⟩:=D;exact bGJ h M hg ai J D W};split at he;{cases he};rename_i Z;split at he;{split at he;{rename_i ak;exact bGI h M J Z (by simpa using ak) he D W};{cases he}};obtain⟨r,us,bs,ow⟩:=cr;cases he;obtain⟨ts,aa,al,⟨ab,hfn,E,G⟩,K⟩:=D;obtain⟨ps,cs,am,an,ao⟩:=aLV h J Z;have I:HoldsL fz (lE (V.ev f)++args.toList.map V.ev++Y) ρ (ps++(args.map a.eval)++cs).toList:=(by simp only[Array.toList_append,Array.toList_map];exact(an.append (h.evL args.toList)).append ao);have hex:(execOp a.eval o).run P w=.ok (.enter fn (ps++(args.map a.eval)++cs)) w:=(by have hb:¬ab.body=none:=(by intro e;rw[e]at G;simp at G);have aq:¬ab.name= "runtime.NumGoroutine":=(by intro e;rw[e]at E;simp at E);simp[execOp,M,resolve,am,Deferred.ofValue,invoke,callFunc,hfn,aq,hb]);intro Q;refine qT hex ?_;rcases al with O|ar;{refine(K (bDM w) w _ (bWW w) (h.gl.mono (Fz.le_trans h.f0 h.le_full)) (aa.holds h h.shows_full hg _ I)).mono ?_;rintro e w' ⟨v,fz',rfl,A,_,_,_,hr,_⟩;exact⟨fz,ρ,(h.ext A).putO W (hr.flat _ _ _ _ O) (by cases r<;>simp_all [Aw.flat,aG])⟩};{refine(K fz w _ ⟨h.fcell,h.fobj⟩ (h.gl.mono h.f0) (aa.holds_noref ar _ I)).mono ?_;rintro e w' ⟨v,fz',rfl,A,hle,ac,S,hr,L⟩;have h1:=h.extend A hle ac.1 ac.2 S;refine⟨fz',ρ,?_⟩;by_cases ho:aG r=true;{obtain⟨el,wd,rows,rfl⟩:∃el wd rows,r=.own el wd rows:=(by cases r<;>simp[aG]at ho;exact⟨_,_,_,rfl⟩);cases ad:o.dst with|none=>exact h1|some d=>refine h1.putOwn (W d ad) (hr.mono (Fz.le_refl _) _ _ _ _ (aAQ _)) ?_ (fun q _ U x x' n n' c c' hv J=>?_);{rcases L el wd rows rfl with hh|⟨gg,cap,cur,x1,x2,x3,x4,x5,x6,x7,x8⟩;{exact .inl hh};{exact .inr ⟨gg,cap,cur,x1,.inl (Nat.le_trans h.bsz x2),x3,x4,x5,x6,x7,x8,fun b hb=>absurd (h.lt hb) (by omega)⟩}};{have av:=fun{b c}=>SimE.lt h (b:=b) (c:=c);rw[h.conc_same (w':=w') U (Ren.le_refl _) (fun b j c _ J=>A.block c (av J))]at J;cases ae:V.at q<;>rw[ae]at U<;>simp[aG]at U;rcases h.tips q _ _ _ ae with⟨x1,_⟩|⟨y,_,_,x1,_,x3,_⟩;{rw[J]at x1;cases x1};{rw[J]at x1;cases x1;have hy:=cE x3;rcases L el wd rows rfl with⟨hh,_⟩|⟨gg,cap,cur,y1,y2,_⟩;{rw[hv]at hh;cases hh};{rw[hv]at y1;cases y1;simp;omega}}}};{have aw:aG r=false:=(by simpa using ho);exact h1.putO W (hr.mono (Fz.le_refl _) _ _ _ _ (aAQ _)) aw}}};{cases he}
end Go.Aw
end
section
namespace Go.Aw
variable [GL]
variable {P:Program} {C:Ctx} {V:View} {a:Act} {w:World} {fz:Fz} {ρ:Ren} {o:Oper} {Q:Exit->Act->World->Prop}
theorem bTZ (h:SimE C V a w fz ρ) {x:Operand} (E:o.op=.nilCheck x) {J:Eff} (he:cLW [V.ev x]=some J) (I:∀i,o.dst=some i->i<C.N):cI P C V a w o J:=by have A:=h.ev x;unfold cLW at he;split at he;{rename_i b off heq;simp only[List.cons.injEq,and_true]at heq;cases he;rw[heq]at A;have D:=A;simp only[Holds]at A;obtain⟨c,_,G⟩:=A;exact aF h (v:=a.eval x) (by simp[execOp,E,G]) I D rfl};{rename_i w' rows i k heq;simp only[List.cons.injEq,and_true]at heq;cases he;rw[heq]at A;have D:=A;simp only[Holds]at A;obtain⟨b,L,G,_⟩:=A;exact aF h (v:=a.eval x) (by simp[execOp,E,G]) I D rfl};{rename_i f K heq;simp only[List.cons.injEq,and_true]at heq;cases he;rw[heq]at A;have D:=A;simp only[Holds]at A;obtain⟨cs,G,_⟩:=A;exact aF h (v:=a.eval x) (by simp[execOp,E,G,cPN]) I D rfl};{cases he}
theorem aYI:∀ {rows:List (List AV)} {l:List Int},aHJ rows=some l->l.length=rows.length/\ ∀i (hi:i<l.length),rows[i]? =some [.val (.int .u8 l[i])]
 |[],l,h=>by simp_all [aHJ,Option.some.injEq]
 |r::rows,l,h=>by unfold aHJ at h;split at h;{rename_i heq;cases heq};{rename_i n r' heq;cases heq;cases A:aHJ rows with|none=>rw[A]at h;cases h|some E=>rw[A]at h;cases h;obtain⟨h1,D⟩:=aYI A;refine⟨by simp[h1],fun i hi=>?_⟩;cases i with|zero=>rfl|succ i=>simpa using D i (by simpa using hi)};{cases h}
theorem bUM (h:SimE C V a w fz ρ) {s t e:TypeId} {x:Operand} (aa:o.op=.convert s t x) (W:P.underlying s=some (.slice e)) (hu:P.underlying e=some (.int .u8)) (Y:P.underlying t=some .string) {ef:Eff} (he:cMI [V.ev x]=some ef) (hd:∀i,o.dst=some i->i<C.N):cI P C V a w o ef:=by have G:=h.ev x;simp only[cMI]at he;split at he;{rename_i rows A;split at he;{rename_i l hl;cases he;obtain⟨hlen,K⟩:=aYI hl;have key:(convert s t (a.eval x)).run P w=.ok (.string (strOfNums l)) w:=(by have ab:∃D c,a.eval x=.slice D rows.length c/\(rows=[]\/ ∃wd b E,D=some ⟨b,E,none⟩/\HoldsR fz rows wd b E):=(by unfold aKI at A;split at A;{rename_i wd I heq;cases A;rw[heq]at G;simp only[Holds]at G;obtain⟨D,c,h1,_,L⟩:=G;exact⟨D,c,h1,L.imp id fun⟨b,E,M,O⟩=>⟨_,b,E,M,O⟩⟩};{rename_i wd I heq;cases A;rw[heq]at G;simp only[Holds]at G;obtain⟨D,h1,L⟩:=G;exact⟨D,_,h1,L.imp id fun⟨b,E,M,O⟩=>⟨_,b,E,M,O⟩⟩};{rename_i e' wd I heq;cases A;rw[heq]at G;simp only[Holds]at G;obtain⟨D,c,h1,_,L⟩:=G;exact⟨D,c,h1,L.imp id fun⟨b,E,M,O⟩=>⟨_,b,E,M,O⟩⟩};{rename_i heq;cases A;rw[heq]at G;simp only[Holds]at G;exact⟨none,0,by simpa using G,.inl rfl⟩};{cases A});obtain⟨D,c,hv,hr⟩:=ab;rw[hv];rcases hr with rfl|⟨wd,b,E,rfl,Z⟩;{have:l=[]:=List.eq_nil_of_length_eq_zero (by simpa using hlen);subst this;cases D with|none=>exact run_convert_bytes_nil w s e W hu _ _ t Y|some D=>have:(loadCells D 0).run P w=.ok (([]:List Int).map (Value.int .u8)).toArray w:=(by have:=run_loadCells_list (P:=P) w D ([]:List Value) (fun j v hj=>by simp at hj);simpa using this);rw[show([]:List (List AV)).length=0 from rfl,run_convert_bytes_string w s t e _ 0 c W hu Y,run_bytesToString w _ 0 c [] this];rfl};{have ac:rows≠[]->wd=1:=(by intro J;cases rows with|nil=>exact absurd rfl J|cons r rs=>simp only[HoldsR]at Z;have:=K 0 (by rw[hlen];simp);simp at this;rw[this]at Z;simpa using Z.1.symm);by_cases J:rows=[];{subst J;have:l=[]:=List.eq_nil_of_length_eq_zero (by simpa using hlen);subst this;exact run_convert_bytes_arg w s e W hu b E 0 c [] rfl (fun i hi=>by omega) t Y};{have h1:=ac J;subst h1;exact run_convert_bytes_arg w s e W hu b E rows.length c l hlen (fun i hi=>by have S:i<l.length:=(by omega);obtain⟨_,hc⟩:=Z.get _ _ _ _ i _ (K i S);obtain⟨u,ae,_,U⟩:=hc.get _ _ _ 0 (.val (.int .u8 l[i])) (by simp);simp only[Holds]at U;subst U;have:=h.fcell _ _ _ ae;rw[show E+i*1+0=E+i from by omega]at this;rw[this,List.getD_eq_getElem?_getD,List.getElem?_eq_getElem S];rfl) t Y}});exact aF h (v:=.string (strOfNums l)) (by simp[execOp,aa,key]) hd (by simp only[Holds]) rfl};{cases he}};{cases he}
theorem bTY (h:SimE C V a w fz ρ) {s t e:TypeId} {x:Operand} (I:o.op=.convert s t x) (Y:P.underlying s=some .string) (hu:P.underlying e=some (.int .u8)) (Z:P.underlying t=some (.slice e)) {S:Eff} (he:cLV [V.ev x]=some S) (hd:∀i,o.dst=some i->i<C.N):cI P C V a w o S:=by
 have J:=h.ev x;unfold cLV at he;split at he
 ·rename_i str heq;simp only[List.cons.injEq,and_true]at heq;rw[heq]at J;simp only[Holds]at J;cases he;have E:=run_bytes_of_string (P:=P) w s t e str Y Z hu;intro Q;let ob:Obj:=.cells (bytesRow str (grownCap w str.size 0 e)) e ((bytesRow str (grownCap w str.size 0 e)).size,(bytesRow str (grownCap w str.size 0 e)).size+1)
  refine cP (v:=.slice (some ⟨w.heap.size,0,none⟩) str.size (grownCap w str.size 0 e)) (w':=w.drew.alloc ob) (by simp[execOp,I,J,E,ob]) ?_;let pre:List Value:=str.data.toList.map fun b=>.int .u8 b.toNat
  have A:Ext w (w.drew.alloc ob):=pO w ob;have G:=h.fz_new (Nat.le_refl _);have K:(w.drew.alloc ob).heap[w.heap.size]? =some ob:=nK w ob;have h1:SimE C V a (w.drew.alloc ob) (fz.add w.heap.size pre) ρ:=(by refine h.extend A (Fz.le_add G.1) (fun c o v D=>?_) (fun c o D=>A.heap (h.fobj c o D)) (fun c U=>⟨fun o=>?_,rfl⟩);{simp only[Fz.add]at D;split at D;{rename_i U;subst U;simp only[World.cell?,K,ob,Option.isSome_none,Bool.false_eq_true,if_false];have L:=(List.getElem?_eq_some_iff.1 D).1;simp only[bytesRow];rw[Array.getElem?_append_left (by simpa[pre]using L)];simpa[pre]using D};{exact A.cell (h.fcell c o v D)}};{simp only[Fz.add];rw[if_neg (by omega)]});refine⟨_,ρ,h1.putO hd ?_ rfl⟩;have M:(fW str).length=str.size:=(by simp only[fW,List.length_map,Array.length_toList];rfl);simp only[Holds,M];refine⟨some ⟨w.heap.size,0,none⟩,_,rfl,grownCap_ge w str.size 0 e,.inr ⟨_,_,rfl,HoldsR.of_get _ _ _ _ fun i r W=>?_⟩⟩;simp only[fW,List.getElem?_map,Option.map_eq_some_iff]at W;obtain⟨b,hb,rfl⟩:=W;refine⟨rfl,HoldsC.of_get _ _ _ fun j y O=>?_⟩;cases j with|succ j=>simp at O|zero=>simp at O;subst O;refine⟨.int .u8 b.toNat,?_,rfl,by simp only[Holds]⟩;simp only[Fz.add,if_true,pre,List.getElem?_map];rw[show 0+i*1+0=i from by omega,hb];rfl
 {cases he}
theorem aQD (h:SimE C V a w fz ρ) {neg:Bool} {op:BinOp} (G:op=if neg then .neq else .eql) {t u:TypeId} {x:Operand} (O:o.op=.binOp op t x (.const (.slice none 0 0)) u) {e:TypeId} (ht:P.underlying t=some (.slice e)) {Y:Eff} (he:bKD neg [V.ev x]=some Y) (Z:∀i,o.dst=some i->i<C.N):cI P C V a w o Y:=by
 have L:=h.ev x;have key:∀ (r:Option Addr) (n c:Nat),a.eval x=.slice r n c->(execOp a.eval o).run P w=.ok (.value (.bool (if neg then !r.isNone else r.isNone))) w:=by intro r n c I;have h1:(eqGuard op t x (.const (.slice none 0 0)) (a.eval x) (.slice none 0 0)).run P w=.ok () w:=(by rw[I];exact dD _ _ _ _ _ _ rfl (by simp));have S:∀d:Nat,(Op.equalIn (d+1) t (.slice r n c) (.slice none 0 0)).run P w=.ok r.isNone w:=(by intro d;cases r<;>simp[Op.equalIn,run_underlying ht]);have J:=S 9999;have K:a.eval (.const (.slice none 0 0))=.slice none 0 0:=rfl;cases neg<;>simp only[Bool.false_eq_true,if_false,if_true]at G<;>subst G<;>rw[I]at h1<;> simp[execOp,O,h1,K,I,binOp,Op.equal,Op.maxDepth,J]
 have some_:∀ (D:Addr) (n c:Nat),a.eval x=.slice (some D) n c-> ∀ob:Prop,cI P C V a w o {out:=.val (.bool neg),ob:=ob}:=by intro D n c U ob;have hk:=key (some D) n c U;exact aF h (v:=.bool neg) (by rw[hk];cases neg<;>rfl) Z (by simp only[Holds]) rfl
 have A:∀ (r:List AV) (W:List (List AV)) (D:Option Addr) (n c:Nat),a.eval x=.slice D n c->((r::W)=[]\/ ∃wd b E,D=some ⟨b,E,none⟩/\HoldsR fz (r::W) wd b E)-> ∀ob:Prop,cI P C V a w o {out:=.val (.bool neg),ob:=ob}:=by intro r W D n c U I ob;rcases I with I|⟨_,b,E,rfl,_⟩;{cases I};{exact some_ _ _ _ U ob}
 unfold bKD at he;split at he<;>(try(cases he;done))<;>rename_i heq<;>simp only[List.cons.injEq,and_true]at heq<;>rw[heq]at L<;>simp only[Holds]at L<;>cases he;{have hk:=key none 0 0 L;exact aF h (v:=.bool !neg) (by rw[hk];cases neg<;>rfl) Z (by simp only[Holds]) rfl};{obtain⟨D,c,h1,_,J⟩:=L;exact A _ _ D _ _ h1 (J.imp id fun⟨b,E,K,M⟩=>⟨_,b,E,K,M⟩) _};{obtain⟨D,h1,J⟩:=L;exact A _ _ D _ _ h1 (J.imp id fun⟨b,E,K,M⟩=>⟨_,b,E,K,M⟩) _};{obtain⟨D,c,h1,_,J⟩:=L;exact A _ _ D _ _ h1 (J.imp id fun⟨b,E,K,M⟩=>⟨_,b,E,K,M⟩) _};grind
theorem aQE (h:SimE C V a w fz ρ) {neg:Bool} {op:BinOp} (A:op=if neg then .neq else .eql) {t u:TypeId} {x:Operand} (D:o.op=.binOp op t x (.const (.pointer none)) u) {e:TypeId} (L:P.underlying t=some (.pointer e)) {K:Eff} (he:bKE neg [V.ev x]=some K) (M:∀i,o.dst=some i->i<C.N):cI P C V a w o K:=by
 have E:=h.ev x;have key:∀ (b G:Nat),a.eval x=.pointer (some ⟨b,G,none⟩)-> ∀ob:Prop,cI P C V a w o {out:=.val (.bool neg),ob:=ob}:=by intro b G I ob;have h1:(eqGuard op t x (.const (.pointer none)) (a.eval x) (.pointer none)).run P w=.ok () w:=(by rw[I];exact dD _ _ _ _ _ _ rfl (by simp));have J:∀d:Nat,(Op.equalIn (d+1) t (.pointer (some ⟨b,G,none⟩)) (.pointer none)).run P w=.ok false w:=(by intro d;simp[Op.equalIn,run_underlying L]);have O:=J 9999;have S:a.eval (.const (.pointer none))=.pointer none:=rfl;refine aF h (v:=.bool neg) ?_ M (by simp only[Holds]) rfl;cases neg<;>simp only[Bool.false_eq_true,if_false,if_true]at A<;>subst A<;>rw[I]at h1<;> simp[execOp,D,h1,S,I,binOp,Op.equal,Op.maxDepth,O]
 unfold bKE at he;split at he<;>(try(cases he;done))<;>rename_i heq<;>simp only[List.cons.injEq,and_true]at heq<;>rw[heq]at E<;>simp only[Holds]at E<;>cases he;{obtain⟨c,_,U⟩:=E;exact key _ _ U _};grind
theorem aNR {t e:TypeId} {n wd:Nat} (D:P.underlying t=some (.array n e)) (A:qD P e=some wd) {k:IntKind} {i:Int} (E:0<=i) (h1:i<n) {b off:Nat} (w:World): (Instr.indexAt t (.pointer (some ⟨b,off,none⟩)) (.int k i)).run P w=.ok (.pointer (some ⟨b,off+i.toNat*wd,none⟩)) w:=by simp only[qD,Option.map_eq_some_iff]at A;obtain⟨it,hit,rfl⟩:=A;simp[Instr.indexAt,asIntOf,run_underlying D,Instr.sureAddr,sizeOf,typeInfo,hit,E,h1,xQ]
theorem bLR (h:SimE C V a w fz ρ) {t e:TypeId} {n:Nat} {x i:Operand} (E:o.op=.indexAddr t x i) (O:P.underlying t=some (.array n e)) {wd:Nat} (S:qD P e=some wd) {I:Eff} (he:bSQ n wd [V.ev x,V.ev i]=some I) (A:I.ob) (U:∀i,o.dst=some i->i<C.N):cI P C V a w o I:=by have D:=h.ev x;unfold bSQ at he;split at he;{rename_i b off k j heq;simp only[List.cons.injEq,and_true]at heq;obtain⟨e1,J⟩:=heq;have hi:=aLM h J;rw[e1]at D;simp only[Holds]at D;obtain⟨c,K,L⟩:=D;cases he;refine aF h (v:=.pointer (some ⟨c,off+j.toNat*wd,none⟩)) ?_ U ?_ rfl;{simp only[execOp,E,L,hi,Sem.run_bind,aNR O S A.1 A.2 w,Result.andThen_ok,Sem.run_pure]};{simp only[Holds];exact⟨c,K,rfl⟩}};{rename_i w' rows r M k j heq;simp only[List.cons.injEq,and_true]at heq;obtain⟨e1,J⟩:=heq;have hi:=aLM h J;rw[e1]at D;simp only[Holds]at D;obtain⟨b,G,L,W⟩:=D;cases he;refine aF h (v:=.pointer (some ⟨b,G+(r*w'+M)+j.toNat*wd,none⟩)) ?_ U ?_ rfl;{simp only[execOp,E,L,hi,Sem.run_bind,aNR O S A.1 A.2 w,Result.andThen_ok,Sem.run_pure]};{simp only[Holds];exact⟨b,G,by rw[show G+(r*w'+M)+j.toNat*wd=G+(r*w'+(M+j.toNat*wd))from by omega],W⟩}};{cases he}
theorem aQG (h:SimE C V a w fz ρ) {neg:Bool} {op:BinOp} (A:op=if neg then .neq else .eql) {t u:TypeId} {x:Operand} (E:o.op=.binOp op t x (.const .nilIface) u) {ms:Array (String×TypeId)} (M:P.underlying t=some (.interface ms)) {O:Eff} (he:bKG neg [V.ev x]=some O) (S:∀i,o.dst=some i->i<C.N):cI P C V a w o O:=by
 have G:=h.ev x;have U:a.eval (.const .nilIface)=.nilIface:=rfl;have key:∀ (I:TypeId) (J:Value),a.eval x=.iface I J-> ∀ob:Prop,cI P C V a w o {out:=.val (.bool neg),ob:=ob}:=by intro I J K ob;have h1:(eqGuard op t x (.const .nilIface) (a.eval x) .nilIface).run P w=.ok () w:=(by rw[K];exact dD _ _ _ _ _ _ rfl (by simp));have D:∀d:Nat,(Op.equalIn (d+1) t (.iface I J) .nilIface).run P w=.ok false w:=(by intro d;simp[Op.equalIn,run_underlying M]);have L:=D 9999;refine aF h (v:=.bool neg) ?_ S (by simp only[Holds]) rfl;cases neg<;>simp only[Bool.false_eq_true,if_false,if_true]at A<;>subst A<;>rw[K]at h1<;> simp[execOp,E,h1,U,K,binOp,Op.equal,Op.maxDepth,L]
 unfold bKG at he;split at he<;>(try(cases he;done))<;>rename_i heq<;>simp only[List.cons.injEq,and_true]at heq<;>rw[heq]at G<;>simp only[Holds]at G<;>cases he;{have h1:(eqGuard op t x (.const .nilIface) .nilIface .nilIface).run P w=.ok () w:=(by cases op<;>simp[eqGuard]);have D:∀d:Nat,(Op.equalIn (d+1) t .nilIface .nilIface).run P w=.ok true w:=(by intro d;simp[Op.equalIn,run_underlying M]);have L:=D 9999;refine aF h (v:=.bool !neg) ?_ S (by simp only[Holds]) rfl;cases neg<;>simp only[Bool.false_eq_true,if_false,if_true]at A<;>subst A<;> simp[execOp,E,h1,U,G,binOp,Op.equal,Op.maxDepth,L]};{exact key _ _ G _};grind
theorem bLP (h:SimE C V a w fz ρ) {t e:TypeId} {n wd:Nat} {J:Bool} {x i:Operand} (G:o.op=.index t x i) (S:P.underlying t=some (.array n e)) (U:qD P e=some wd) (I:nU P e=some J) {K:Eff} (he:bSO n wd J [V.ev x,V.ev i]=some K) (A:K.ob) (W:∀i,o.dst=some i->i<C.N):cI P C V a w o K:=by have L:=h.ev x;unfold bSO at he;split at he;{rename_i l k j heq;simp only[List.cons.injEq,and_true]at heq;have hi:=aLM h heq.2;rw[heq.1]at L;simp only[Holds]at L;obtain⟨cs,Y,Z⟩:=L;split at he;{rename_i y D;cases he;simp only at A;have aa:=wP D;simp only[wQ]at D;cases J with|true=>simp only[if_true]at D;split at D;{rename_i ab;cases D;have M:=((Z.drop (j.toNat*wd)).take wd).dem;refine aF h (v:=.agg (cs.extract (j.toNat*wd) (j.toNat*wd+wd))) ?_ W ?_ rfl;{simp[execOp,G,Instr.index,asIntOf,hi,run_underlying S,Y,A.1,A.2,part,mK I,qW U]};{simp only[Holds];refine⟨_,rfl,?_⟩;have e:(cs.extract (j.toNat*wd) (j.toNat*wd+wd)).toList=(cs.toList.drop (j.toNat*wd)).take wd:=(by rw[Array.toList_extract,List.extract_eq_take_drop,Nat.add_sub_cancel_left]);rw[e];exact M}};{cases D}|false=>simp only[Bool.false_eq_true,if_false]at D;cases E:l[j.toNat*wd]? with|none=>rw[E]at D;cases D|some z=>rw[E]at D;cases D;obtain⟨v,O,hh⟩:=Z.get _ _ _ _ z E;refine aF h (v:=v) ?_ W hh.dem (cV _);have hg:cs[j.toNat*wd]? =some v:=(by simpa using O);simp[execOp,G,Instr.index,asIntOf,hi,run_underlying S,Y,A.1,A.2,part,mK I,qW U,hg]};{cases he}};{cases he}
end Go.Aw
end
