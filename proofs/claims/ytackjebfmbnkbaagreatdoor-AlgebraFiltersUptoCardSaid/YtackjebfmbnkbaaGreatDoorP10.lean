/- Families: a call comes to one of many results; the code goes on from each. -/
import Derived.Test.YtackjebfmbnkbaaGreatDoorP09
set_option linter.unusedSimpArgs false
set_option linter.unusedVariables false
set_option linter.unusedSectionVars false
section
namespace Go.Aw
variable [GL]
variable {P:Program} {C:Ctx} {V:View} {a:Act} {w:World} {fz:Fz} {ρ:Ren} {o:Oper} {ops:Array Oper} {Q:Exit->Act->World->Prop}
def ConX (P:Program) (f:FuncId) (H:List (Nat×Blk)) (ts:List AV) {X:Type} (r:X->AV) (A:X->List (Nat×Blk)):Prop:=Enters P f/\(∀x,aG (r x)=false)/\
 ∀ (fz:Fz) (ρ:Ren) (w:World) (vs:Array Value),sK fz w->GLok fz->Mem fz ρ w (lk H)->bPA (lk H) ρ->HoldsL fz ts ρ vs.toList->
  Calls P f vs w fun e w'=>∃x,cHM fz ρ w (lk H) (r x) (lk (A x)) e w'
structure FamX {X:Type} (V:View) (us:List Nat) (H:List (Nat×Blk)) (bs:X->List (Nat×Blk)) (ts:List AV):Prop where
 us:∀x b k,lk (bs x) b=some k->us.contains b=true
 have_:∀b k,lk H b=some k->V.hp b=some k
 new:∀x b k,lk (bs x) b=some k->lk H b=none->V.hp b=none/\(b<1000\/2000<=b)
 all:∀x b k,lk H b=some k-> ∃k',lk (bs x) b=some k'
 wk:∀b k,lk H b=some k->k.within (H.map (·.1))
 wt:bD (H.map (·.1)) ts=true
theorem SimE.callX (h:SimE C V a w fz ρ) {X:Type} {r:X->AV} {bs:X->List (Nat×Blk)} {us:List Nat} {H:List (Nat×Blk)} {ts:List AV} (E:X) (A:FamX V us H bs ts) {args:Array Value} (D:HoldsL fz ts ρ args.toList) {f:FuncId} (G:ConX P f H ts r bs): Calls P f args w fun e w'=>∃x v fz' ρ',e=.returned v/\SimE C (V.setBs (bs x)) a w' fz' ρ'/\Holds fz' (r x) ρ' v/\fz.le fz'/\Ren.le ρ ρ':=by
 refine h.callM (us:=us) (r:=r E) (bs:=bs E) (g:=V.hp) (fun _ _ e=>e) (fun _ _ e=>e) (A.us E) A.have_ (A.new E) (A.all E) A.wk A.wt (X:=fun _ _ _=>Calls P f args w fun e w'=>∃x v fz' ρ',e=.returned v/\SimE C (V.setBs (bs x)) a w' fz' ρ'/\Holds fz' (r x) ρ' v/\fz.le fz'/\Ren.le ρ ρ') (fun _ _ _ _ _ M=>M) D ?_;intro I J h1 U S W Y;refine(G.2.2 fz I w args h1 U S W Y).mono ?_;rintro e w' ⟨x,hp⟩;refine⟨x,h.callM (us:=us) (r:=r x) (bs:=bs x) (g:=V.hp) (fun _ _ e=>e) (fun _ _ e=>e) (A.us x) A.have_ (A.new x) (A.all x) A.wk A.wt (X:=fun _ _ R=>R e w') (fun _ _ _ _ hm M=>hm _ _ M) D fun O K _ _ Z _ _=>?_⟩;have e2:O=I:=funext fun b=>by cases L:lk H b with|none=>rw[Z.dom b L,S.dom b L]|some k=>rw[K b k L,J b k L]
 simp[*]
theorem bKU (h:SimE C V a w fz ρ) {f:Operand} {args:Array Operand} {O:Array TypeId} (S:o.op=.call {callee:=.value f,args:=args,argTypes:=O}) {fn:FuncId} {A:List AV} (hc:callee (V.ev f)=some (fn,A)) (ac:fn<YB) {X:Type} {r:X->AV} {bs:X->List (Nat×Blk)} {us:List Nat} {H:List (Nat×Blk)} {ts:List AV} (x0:X) (hF:FamX V us H bs ts) (U:LtL (lE (V.ev f)++args.toList.map V.ev++A) ts) (G:ConX P fn H ts r bs) (hd:∀i,o.dst=some i->i<C.N) {K:Act->World->Prop} (hK:∀x a' w',Sim C (V.app o.dst {out:=r x,bs:=bs x}) a' w'->K a' w'):o.wpIn (fen C) 0 P a w K Q:=by rcases aFV h hc with⟨_,ps,cs,W,Y,Z⟩|⟨ah,_⟩;{have I:=G;obtain⟨⟨L,hfn,D,E⟩,M,_⟩:=I;have J:HoldsL fz (lE (V.ev f)++args.toList.map V.ev++A) ρ (ps++(args.map a.eval)++cs).toList:=(by simp only[Array.toList_append,Array.toList_map];exact(Y.append (h.evL args.toList)).append Z);have hex:(execOp a.eval o).run P w=.ok (.enter fn (ps++(args.map a.eval)++cs)) w:=(by have hb:¬L.body=none:=(by intro e;rw[e]at E;simp at E);have aa:¬L.name= "runtime.NumGoroutine":=(by intro e;rw[e]at D;simp at D);simp[execOp,S,resolve,W,Deferred.ofValue,invoke,callFunc,hfn,aa,hb]);refine qT hex ((h.callX x0 hF (U.holds J) G).mono ?_);rintro e w' ⟨x,v,fz',ρ',rfl,h1,h2,_⟩;exact hK x _ _ ⟨fz',ρ',h1.putO hd h2 (M x)⟩};grind
theorem wU {M:List Bool} {L:List ROp} (A:lN P ops M ops.toList=some L):∀ (E:List ROp) (R:List Res) (k:Nat) (s s':AS) (ob:Prop),(∀ (i:Nat) (r:ROp),E[i]? =some r->L[k+i]? =some r)->aAH P E R s=some (s',ob)->ob->fZ C.N E=true-> ∀ (rest:List Nat) (a:Act) (w:World),Sim C s.view a w->(∀a' w',Sim C s'.view a' w'->wpOpsIn (fen C) 0 P ops Q rest a' w')->wpOpsIn (fen C) 0 P ops Q (List.range' k E.length++rest) a w
 |[],R,k,s,s',ob,_,h,_,_,rest,a,w,O,S=>by simp_all [aAH,Option.some.injEq,Prod.mk.injEq]
 |_::_,[],k,s,s',ob,_,h,_,_,rest,a,w,O,S=>by grind [aAH]
 |r::E,c::R,k,s,s',ob,hL,h,G,D,rest,a,w,O,S=>by simp only[aAH]at h;split at h;{rename_i e he;split at h;{rename_i s2 U h2;cases h;simp only[fZ,List.all_cons,Bool.and_eq_true]at D;obtain⟨hlen,I⟩:=qA _ _ _ _ A;have W:=hL 0 r (by simp);rw[Nat.add_zero]at W;have J:k<ops.size:=(by have:=(List.getElem?_eq_some_iff.1 W).1;rw[hlen]at this;simpa using this);have ho:ops[k]? =some ops[k]:=(by simp[J]);obtain⟨tk,r',K,Y⟩:=I k ops[k] (by simp[J]);rw[W]at K;cases K;rw[List.length_cons,List.range'_succ,List.cons_append,wpOpsIn_cons];refine aOZ ho Y O he G.1 D.1 fun a' w' Z=>?_;refine wU A E R (k+1) (s.app r.dst e) s' U (fun i r2 h3=>?_) h2 G.2 D.2 rest a' w' (by rw[mX];exact Z) S;have:=hL (i+1) r2 (by simpa using h3);rw[show k+1+i=k+(i+1) by omega];exact this};{cases h}};{cases h}
theorem AWp.regX {id:Nat} {Q:Exit->AS->Prop} {s:AS} (live:List Nat) (S:List Bool) (L:List ROp) (A:lN P ops S ops.toList=some L) (ai:fZ C.N L=true) (j:Nat) (hj:j<L.length) {I:Oper} (U:ops[j]? =some I) (W:I.guard=none) {f:Operand} {args:Array Operand} {Y:Array TypeId} (Z:I.op=.call {callee:=.value f,args:=args,argTypes:=Y}) (hd:∀i,I.dst=some i->i<C.N) (R1 R2:List Res) {X:Type} (x0:X) (r:X->AV) (bs:X->List (Nat×Blk)) (us:List Nat) (H:List (Nat×Blk)) (ts:List AV) (fn:FuncId) (G:List AV) (h:∀K:AS->Prop,(∀s',Q .normal s'->K s')->kW P (L.take j) (cT (L.take j) R1) s [] [] (fun s1 _=>callee (s1.view.ev f)=some (fn,G)/\fn<YB/\FamX s1.view us H bs ts/\LtL (lE (s1.view.ev f)++args.toList.map s1.view.ev++G) ts/\ConX P fn H ts r bs/\ ∀x,kW P (L.drop (j+1)) (cT (L.drop (j+1)) R2) (s1.app I.dst {out:=r x,bs:=bs x}) [] [] (fun s' _=>K (iO live s')))):AWp P C (.region id ops false) Q s:=by
 obtain⟨t1,aa,h1,h2,s1,G1,J1,h3,⟨hc,ab,hF,ac,J,h4⟩,_⟩:=jT _ _ s s [] [] _ (h (Q .normal) (fun _ h=>h)) (Rel.refl _);intro a w hs;obtain⟨hlen,_⟩:=qA _ _ _ _ A;have ad:L.length=ops.size:=by omega
 refine wpIn_region ?_;have E:List.range ops.size=List.range' 0 (L.take j).length++(j::(List.range' (j+1) (L.drop (j+1)).length++[])):=by rw[List.range_eq_range',List.length_take,List.length_drop,Nat.min_eq_left (by omega),List.append_nil];have e1:ops.size=j+(1+(ops.size-(j+1))):=(by omega);rw[e1,<-List.range'_append_1,Nat.zero_add,<-List.range'_append_1];grind
 rw[E];have M:fZ C.N (L.take j)=true:=by grind [fZ,List.all_eq_true,List.mem_of_mem_take]
 have O:fZ C.N (L.drop (j+1))=true:=by grind [fZ,List.all_eq_true,List.mem_of_mem_drop]
 refine wU A (L.take j) _ 0 s t1 aa (fun i r hi=>?_) h1 h2 M _ a w hs fun a1 w1 ae=>?_;{grind};{have D:=h3.sim ae;obtain⟨av,aw,D⟩:=D;rw[wpOpsIn_cons];unfold wpOpIn;rw[U];simp only;rw[if_pos (by simp[Region.wanted,W])];refine bKU D Z hc ab x0 hF ac J hd fun x a2 w2 ay=>?_;obtain⟨t2,af,k1,k2,s2,G2,J2,k3,k4,_⟩:=jT _ _ ((clr G1 s1).app I.dst {out:=r x,bs:=bs x}) ((clr G1 s1).app I.dst {out:=r x,bs:=bs x}) [] [] _ (h4 x) (Rel.refl _);refine wU A (L.drop (j+1)) _ (j+1) _ t2 af (fun i r hi=>?_) k1 k2 O [] a2 w2 (by grind [mX]) fun a3 w3 ag=>?_;{simp_all};{simp only[wpOpsIn];exact⟨_,(k3.sim ag).keep live,k4⟩}}
theorem AWp.gX {D:Func} {id k W:Nat} {live:List Nat} {Q:Exit->AS->Prop} {s:AS} {L:List ROp} (G:FnT P D) (hC:C.N=D.ntmps) (i j:Nat) (S U:List Res) {X:Type} (Y:X) (r:X->AV) (bs:X->List (Nat×Blk)) (us:List Nat) (H:List (Nat×Blk)) (ts:List AV) (fn:FuncId) (A:List AV) {E:Oper} {f:Operand} {args:Array Operand} {I:Array TypeId} (h:∀K:AS->Prop,(∀s',Q .normal s'->K s')->kW P (L.take j) (cT (L.take j) S) s [] [] (fun s1 _=>callee (s1.view.ev f)=some (fn,A)/\fn<YB/\FamX s1.view us H bs ts/\LtL (lE (s1.view.ev f)++args.toList.map s1.view.ev++A) ts/\ConX P fn H ts r bs/\ ∀x,kW P (L.drop (j+1)) (cT (L.drop (j+1)) U) (s1.app E.dst {out:=r x,bs:=bs x}) [] [] (fun s' _=>K (iO live s')))) (h1:G.tab[i]? =some (k,W,live):=by rfl) (Z:G.L[i]? =some L:=by rfl) (h3:hU D k=ops:=by kernel_rfl) (ab:fZ D.ntmps L=true:=by kernel_rfl) (hj:j<L.length:=by decide) (J:ops[j]? =some E:=by rfl) (M:E.guard=none:=by rfl) (O:E.op=.call {callee:=.value f,args:=args,argTypes:=I}:=by rfl) (hd:∀i,E.dst=some i->i<D.ntmps:=by(intro i hi;cases hi;decide)):AWp P C (.region id ops false) Q s:=by subst h3;exact AWp.regX live _ L (kG G.ok h1 Z) (by simp[*]) j hj J M O (by simp_all) S U Y r bs us H ts fn A h
theorem ConX.of_code {f:FuncId} {fn:Func} {c:Code} {H:List (Nat×Blk)} {ts:List AV} {X:Type} {r:X->AV} {W:X->List (Nat×Blk)} (hf:P.funcs[f]? =some fn) (hn:(fn.name== "runtime.NumGoroutine")=false) (G:fn.body=some c) (hl:ts.length<=fn.ntmps) (hN:fn.ntmps<=1000) (hH:∀b k,lk H b=some k->1000<=b/\b<2000) (I:∀x b k,lk H b=some k-> ∃k',lk (W x) b=some k') (hr:∀x,aG (r x)=false) (h:∀C:Ctx,C.N=fn.ntmps->(∀b,lk H b=none->C.ρ0 b=none)->(H=[]-> ∀c,C.Mu c=false)->(∀c o v,C.fz0.cell c o=some v->c<C.B)->AWp P C c (fun e s=>(e=.normal\/e=.ret)/\ ∃x,bSY P fn.results.toList (r x) (W x) s) {tm:=kF 0 (ts.map dem),hp:=H}):ConX P f H ts r W:=by
 refine⟨⟨fn,hf,hn,by simp[*]⟩,hr,fun fz ρ w vs J Y A Z E=>?_⟩;have am:vs.size=ts.length:=by simpa using E.len
 refine calls_of_wp hf G ?_;have D:=yD (a:={tmps:=vs++Array.replicate (fn.ntmps-vs.size) undef,defers:=[]}) (V:=({tm:=kF 0 (ts.map dem),hp:=H}:AS).view) J Y A Z hN hH rfl (by simp[*]) (fun t=>(aCV E t).1) (fun t=>(aCV (n:=0) E t).2) (fun _=>rfl);have aa:H=[]-> ∀c,(Ctx.startM w fz ρ H fn.ntmps).Mu c=false:=by rintro rfl c;simp only[Ctx.startM];rw[decide_eq_false_iff_not];rintro(⟨b,G⟩|⟨p,g,n,cap,ho,_⟩);{rw[A.dom b rfl]at G;cases G};{cases p<;>cases ho}
 have hF:∀c o v,(Ctx.startM w fz ρ H fn.ntmps).fz0.cell c o=some v->c<(Ctx.startM w fz ρ H fn.ntmps).B:=by intro c o v hv;exact World.block_lt_of_cell? w _ (J.1 _ _ _ hv)
 refine wp_mono (wpIn_wide.1 (h (Ctx.startM w fz ρ H fn.ntmps) rfl (fun b G=>A.dom b G) aa hF _ w ⟨fz,ρ,D⟩)) ?_;rintro e a' w' ⟨aq,⟨fz',ag,K⟩,he,x,⟨l,L,ab⟩,ac,M⟩;obtain⟨v,O,S⟩:=uN K L;obtain⟨ρ',V',hs,U,ae⟩:=K.toH M ac (ab.holds S);have hR:=sZ A (I x) hs U ae;rcases he with rfl|rfl;{exact⟨hs.df,v,O,x,v,fz',ρ',rfl,hR⟩};{exact⟨hs.df,v,O,x,v,fz',ρ',rfl,hR⟩}
theorem FamX.one {X:Type} {V:View} {d:Nat} {k:X->Blk} {ts:List AV} (E:V.hp d=none) (h1:d<1000) (D:bD [] ts=true):FamX V [d] [] (fun x=>[(d,k x)]) ts:=by refine⟨fun x b A hk=>?_,fun b A hk=>by simp[lk]at hk,fun x b A hk _=>?_,fun x b A hk=>by simp[lk]at hk,fun b A hk=>by simp[lk]at hk,D⟩;{simp only[lk]at hk;split at hk;{rename_i e;subst e;simp};{cases hk}};simp_all
theorem AWp.gl {A:Func} {id k D:Nat} {live:List Nat} {Q:Exit->AS->Prop} {s:AS} {L:List ROp} (G:FnT P A) (W:C.N=A.ntmps) (i:Nat) (R:List Res) (h:∀K:AS->Prop,(∀s',Q .normal s'->K s')->aQU P L (cT L R) s fun s'=>K (iO live s')) (h1:G.tab[i]? =some (k,D,live):=by rfl) (E:G.L[i]? =some L:=by rfl) (I:hU A k=ops:=by kernel_rfl) (J:fZ A.ntmps L=true:=by kernel_rfl):AWp P C (.region id ops false) Q s:=by subst I;obtain⟨s',ob,M,O,S⟩:=aKH L _ s _ (h (Q .normal) (fun _ h=>h));have:=AWp.region (C:=C) (id:=id) (Q:=fun e t=>e=.normal/\t.view=s'.view) R (kG G.ok h1 E) (by simp[*]) M O ⟨rfl,rfl⟩;intro a w U;refine wpIn_mono (this a w U) ?_;rintro e a' w' ⟨t,Y,rfl,Z⟩;exact⟨_,(show Sim C s'.view a' w' by simp_all).keep live,S⟩
end Go.Aw
end
section
namespace Go.Aw
variable [GL]
variable {P:Program} {fz:Fz} {ρ:Ren} {w:World}
def exC (fz:Fz) (b:Nat):Nat->List AV->List AV
 |_,[]=>[]
 |o,_::xs=>.val ((fz.cell b o).getD undef)::exC fz b (o+1) xs
def exR (fz:Fz) (b wd:Nat):Nat->List (List AV)->List (List AV)
 |_,[]=>[]
 |o,r::A=>exC fz b o r::exR fz b wd (o+wd) A
theorem bDS (b:Nat):∀ (r:List AV) (o:Nat),(exC fz b o r).length=r.length
 |[],_=>rfl
 |_::xs,o=>by simp[exC,bDS b xs (o+1)]
theorem bRS (b wd:Nat):∀ (A:List (List AV)) (o:Nat),(exR fz b wd o A).length=A.length
 |[],_=>rfl
 |_::A,o=>by simp[exR,bRS b wd A (o+wd)]
theorem bRT (b:Nat):∀ (r:List AV) (o:Nat),∀x∈exC fz b o r,∃u,x=.val u
 |[],_,x,A=>by cases A
 |_::xs,o,x,A=>by rcases List.mem_cons.1 A with rfl|A;{simp};{exact bRT b xs (o+1) x A}
theorem bRR (b wd:Nat):∀ (D:List (List AV)) (o:Nat),∀r∈exR fz b wd o D,∀x∈r,∃u,x=.val u
 |[],_,r,A=>by cases A
 |E::D,o,r,A=>by rcases List.mem_cons.1 A with rfl|A;{grind [bRT]};{exact bRR b wd D (o+wd) r A}
theorem bAC (b:Nat):∀ (r:List AV) (o:Nat),HoldsC fz r b o->HoldsC fz (exC fz b o r) b o
 |[],_,_=>by assumption
 |x::xs,o,h=>by simp only[HoldsC]at h;obtain⟨⟨u,h1,A,E⟩,D⟩:=h;simp only[exC,HoldsC];refine⟨⟨u,h1,A,?_⟩,bAC b xs (o+1) D⟩;simp_all [Holds,Option.getD_some]
theorem bAB (b wd:Nat):∀ (A:List (List AV)) (o:Nat),HoldsR fz A wd b o->HoldsR fz (exR fz b wd o A) wd b o
 |[],_,_=>by assumption
 |r::A,o,h=>by simp only[HoldsR]at h;obtain⟨h1,D,E⟩:=h;simp only[exR,HoldsR];exact⟨by simp_all [bDS],bAC b r o D,bAB b wd A (o+wd) E⟩
theorem bAA (b wd:Nat):∀ (D:List (List AV)) (o:Nat),HoldsR fz D wd b o-> ∀r∈exR fz b wd o D,r.length=wd
 |[],_,_,r,A=>by cases A
 |E::D,o,h,r,A=>by simp only[HoldsR]at h;rcases List.mem_cons.1 A with rfl|A;{simp_all [bDS]};{exact bAA b wd D (o+wd) h.2.2 r A}
theorem aBF {wd:Nat}:∀ {rows:List (List AV)},(∀r∈rows,r.length=wd)->rows.flatten.length=rows.length*wd
 |[],_=>by simp
 |r::A,h=>by rw[List.flatten_cons,List.length_append,aBF (fun r' o=>h r' (by grind)),h r (by simp),List.length_cons,Nat.add_mul];omega
theorem ConX.copy {f:FuncId} {e:TypeId} {wd:Nat} (he:Enters P f) {rows:List (List AV)} (W:rows≠[]) (Y:∀r∈rows,∀x∈r,noref x=true/\aG x=false) (h:∀R:List (List AV),R.length=rows.length->(∀r∈R,r.length=wd/\ ∀x∈r,∃u,x=.val u)->Con P f [.rd wd R] (.own e wd R)): ConX P f [] [.rd wd rows] (fun m:Nat=>.vec 6 wd 0 rows.length (rows.length+m)) (fun m=>[(6,qB e wd (rows.length+m) rows)]):=by
 refine⟨he,fun _=>rfl,fun fz ρ w vs E ai hm a4 Z=>?_⟩;have aj:∀x,ρ x=none:=fun x=>hm.dom x rfl;obtain⟨b,o,c,rfl,aa,hR⟩:∃b o c,vs= #[.slice (some ⟨b,o,none⟩) rows.length c]/\rows.length<=c/\HoldsR fz rows wd b o:=by simp only[HoldsL,Holds]at Z;obtain⟨v,r,e1,⟨ad,c,rfl,J,A⟩,rfl⟩:=Z;rcases A with A|⟨b,o,rfl,A⟩;{exact absurd A W};{exact⟨b,o,c,Array.toList_inj.1 (by simpa using e1),J,A⟩}
 have hE:=bAB b wd rows o hR;have hlen:=bRS (fz:=fz) b wd rows o;have G:=bRR (fz:=fz) b wd rows o;have ab:=h (exR fz b wd o rows) hlen fun r A=>⟨bAA b wd rows o hR r A,G r A⟩;refine(ab.2 fz w _ E ai (by simp only[HoldsL,Holds];exact⟨_,[],rfl,⟨some ⟨b,o,none⟩,c,by rw[hlen],by rw[hlen];exact aa,.inr ⟨b,o,rfl,hE⟩⟩,rfl⟩)).mono ?_
 rintro x w' ⟨v,fz',rfl,h1,h2,h3,h4,h5,h6⟩;have I:exR fz b wd o rows≠[]:=by intro e0;rw[e0]at hlen;exact W (List.eq_nil_of_length_eq_zero hlen.symm)
 rcases h6 _ _ _ rfl with⟨_,x0⟩|⟨g,cap,cur,rfl,y1,y2,y3,y4,y5,y6,y7⟩;{exact absurd x0 I};have ak:HoldsR fz' (exR fz b wd o rows) wd g 0:=by simp only[Holds]at h5;obtain⟨ad,ac,al,_,A⟩:=h5;cases al;rcases A with A|⟨U,o',A,am⟩;{exact absurd A I};{cases A;exact am}
 have K:∀j,j<rows.length*wd-> ∃x u,rows.flatten[j]? =some x/\Holds fz x bT u/\cur[j]? =some u:=by intro j hj;obtain⟨x,u,k1,k2,k3⟩:=hR.flat2 rows wd b o j hj;obtain⟨u1,k4,k5⟩:=hE.flatten _ _ _ _ G j (by rw[hlen];exact hj);obtain⟨u2,k6,k7⟩:=ak.flatten _ _ _ _ G j (by rw[hlen];exact hj);rw[k4]at k6;cases k6;rw[k2]at k5;cases k5;have:=h3.1 _ _ _ k7;simp only[World.cell?,y2,Option.isSome_none,Bool.false_eq_true,if_false,Nat.zero_add]at this;exact⟨x,u,k1,k3,this⟩
 have ap:∀o,fz.cell g o=none:=by intro o;cases J:fz.cell g o with|none=>rfl|some u=>have:=World.block_lt_of_cell? w _ (E.1 _ _ _ J);simp at this;omega
 have aq:fz.obj g=none:=by cases J:fz.obj g with|none=>rfl|some u=>have:=cE (E.2 _ _ J);omega
 have L:rows.flatten.length=rows.length*wd:=aBF hR.width;rw[hlen]at y3;obtain⟨m,rfl⟩:∃m,cap=rows.length+m:=⟨cap-rows.length,by omega⟩;let ρ':Aw.Ren:=fun x=>if x=6 then some g else none
 have M:∀p,aG ((hpV (lk [(6,qB e wd (rows.length+m) rows)])).at p)=false:=by intro p;cases p with|t i=>rfl|c U j=>simp only[View.at,hpV,lk];split;{simp only[Option.map_some,Option.getD_some,qB,Blk.at,List.getD_eq_getElem?_getD];cases O:(rows.flatten++List.replicate ((rows.length+m-rows.length)*wd) AV.unk)[j]? with|none=>rfl|some x=>rcases List.mem_append.1 (List.mem_of_getElem? O)with hm|hm;{obtain⟨r,A,S⟩:=List.mem_flatten.1 hm;exact(Y r A x S).2};{rw[List.eq_of_mem_replicate hm];rfl}};{rfl}
 refine⟨m,.slice (some ⟨g,0,none⟩) rows.length (rows.length+m),fz,ρ',by rw[hlen],⟨h1.os,h1.tape,h1.output,h1.size,fun k hk _=>h1.block k hk⟩,Fz.le_refl _,⟨fun c o u hu=>h1.cell (E.1 c o u hu),fun c o ho=>h1.heap (E.2 c o ho)⟩,fun _ _ _=>⟨fun _=>rfl,rfl⟩,?_,fun U c h=>by(rw[aj]at h;cases h),fun U c h=>?_,fun c J=>?_,?_⟩;{refine⟨fun U k hk=>?_,fun U D=>?_,fun b1 b2 c e1 e2=>?_,fun p e wd rows hp=>?_,fun p q hp=>?_⟩;{simp only[lk]at hk;split at hk;{rename_i e6;subst e6;cases hk;refine⟨g,by simp[ρ'],⟨cur,y2,?_,y5.2⟩,ap,aq⟩;refine HoldsL.of_get _ _ _ ?_ fun i x v O hv=>?_;{have av:=y5.1;simp only[Array.length_toList,List.length_append,List.length_replicate,L,<-Nat.add_mul];rw[av];congr 1;omega};{by_cases hi:i<rows.length*wd;{rw[List.getElem?_append_left (by omega)]at O;obtain⟨x',u,k1,k2,k3⟩:=K i hi;rw[O]at k1;cases k1;simp at hv;rw[hv]at k3;cases k3;obtain⟨r,A,S⟩:=List.mem_flatten.1 (List.mem_of_getElem? O);exact k2.noref _ _ _ _ (Y r A x S).1};{rw[List.getElem?_append_right (by omega)]at O;rw[List.eq_of_mem_replicate (List.mem_of_getElem? O)];simp only[Holds]}}};{cases hk}};{simp only[lk]at D;split at D;{cases D};{rename_i e6;simp only[ρ'];rw[if_neg (fun e'=>e6 e'.symm)]}};{simp only[ρ']at e1 e2;split at e1;{split at e2;{rename_i x y;rw[x,y]};{cases e2}};{cases e1}};{have:=M p;rw[hp]at this;cases this};{rw[M p]at hp;cases hp}};{simp only[ρ']at h;split at h;{cases h;exact .inr (.inl y1)};{cases h}};{rcases J with⟨U,D⟩|⟨p,g',n',ac,ho,_⟩;{simp only[ρ']at D;split at D;{cases D;exact .inl y1};{cases D}};{rw[M p]at ho;cases ho}};grind [Holds]
def tcells (wd:Nat) (rows:List (List AV)) (cap:Nat):List AV:=rows.flatten++List.replicate ((cap-rows.length)*wd) .unk
theorem aXF (e:TypeId) (wd cap:Nat) (rows:List (List AV)):qB e wd cap rows=.cells e (tcells wd rows cap):=rfl
theorem aZR {wd:Nat}:∀ {rows:List (List AV)} (k:Nat) (hk:k<rows.length),(∀r∈rows,r.length=wd)-> ∃A B,rows.flatten=A++(rows[k]++B)/\A.length=k*wd
 |[],k,hk,_=>by grind
 |r::o,0,_,_=>⟨[],o.flatten,by simp,by simp⟩|r::o,k+1,hk,h=>by obtain⟨A,B,h1,E⟩:=aZR (rows:=o) k (by simpa using hk) (fun r' D=>h r' (by simp[D]));grind
theorem aMP {wd k cap:Nat} {rows:List (List AV)} (hk:k<rows.length) (hw:∀r∈rows,r.length=wd):∃A B,tcells wd rows cap=A++(rows[k]++B)/\A.length=k*wd:=by obtain⟨A,B,h1,o⟩:=aZR k hk hw;grind [List.replicate,tcells]
theorem aUC {wd:Nat}:∀ {rows:List (List AV)} (B:List AV),(∀r∈rows,r.length=wd)->chunk wd rows.length (rows.flatten++B)=rows
 |[],_,_=>by rfl
 |r::A,B,h=>by have o:=aUC (rows:=A) B (fun r' D=>h r' (by grind));have E:=h r (by simp);unfold chunk at o|-;rw[List.length_cons,List.range_succ_eq_map,List.map_cons,List.map_map,List.flatten_cons];congr 1;{simp[<-E]};{rw[<-o,o];refine Eq.trans (List.map_congr_left fun i _=>?_) o;simp only[Function.comp];grind [Nat.succ_mul,List.drop_drop,List.append_assoc,List.drop_left]}
theorem bBS {wd cap:Nat} {rows:List (List AV)} (hw:∀r∈rows,r.length=wd):chunk wd rows.length (tcells wd rows cap)=rows:=aUC _ hw
theorem nP {l:List AV} (h:∀x∈l,noref x=true):aW l=true:=by induction l with|nil=>rfl|cons x l o=>simp_all
theorem oZ {wd cap:Nat} {rows:List (List AV)} (h:∀r∈rows,∀x∈r,noref x=true):aW (tcells wd rows cap)=true:=by refine nP fun x o=>?_;rcases List.mem_append.1 o with o|o;{obtain⟨r,D,A⟩:=List.mem_flatten.1 o;exact h r D x A};simp_all
theorem aPZ {wd cap:Nat} {rows:List (List AV)} (hw:∀r∈rows,r.length=wd):rows.length*wd<=(tcells wd rows cap).length:=by grind [tcells,List.length_append,aBF]
theorem Rsv.tcells {g:Nat->Option Blk} {b wd cap:Nat} {e:TypeId} {rows:List (List AV)} (o:g b=some (.cells e (tcells wd rows cap))) (A:∀r∈rows,∀x∈r,noref x=true) (hw:∀r∈rows,r.length=wd) (D:rows.length<=cap):Rsv g (.vec b wd 0 rows.length cap) (.rd wd rows):=by have:=Rsv.vec (w:=wd) (off:=0) (n:=rows.length) (cap:=cap) o (RsvL.closed (oZ A)) (by rw[Nat.zero_add];exact aPZ hw) D;grind [bBS]
end Go.Aw
end
