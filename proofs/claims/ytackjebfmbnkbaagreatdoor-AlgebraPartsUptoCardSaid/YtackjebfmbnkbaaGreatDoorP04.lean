/- Append; calls. -/
import Derived.Test.YtackjebfmbnkbaaGreatDoorP03
import Derived.Lib.AppendStr
set_option linter.unusedSimpArgs false
set_option linter.unusedVariables false
set_option linter.unusedSectionVars false
section
namespace Go.Aw
variable [GL]
variable {P:Program} {C:Ctx} {V:View} {a:Act} {w:World} {fz:Fz} {ρ:Ren} {o:Oper} {Q:Exit->Act->World->Prop}
theorem vB {t:TypeId} {s x:Operand} (A:o.op=.call {callee:=.builtin .append,args:=#[s,x],argTypes:=#[t,t]}) {v:Value} {w':World} (D:(Builtin.append_ #[t,t] o.type #[a.eval s,a.eval x]).run P w=.ok v w'):(execOp a.eval o).run P w=.ok (.value v) w':=by simp[execOp,A,resolve,invoke,builtin,D]
theorem aON {t e:TypeId} {i:TypeInfo} (E:P.underlying t=some (.slice e)) (hi:P.info? e=some i) {ty:TypeId} {base:Option Addr} {n cap:Nat} (A:n<=cap) {D:Option Addr} {c:Nat} (w:World): (Builtin.append_ #[t,t] ty #[.slice base n cap,.slice D 0 c]).run P w=.ok (.slice base n cap) w:=by cases D<;>cases base<;>simp[Builtin.append_,run_underlying E,sizeOf,typeInfo,hi,Builtin.lenOf,A,Builtin.firstCells,loadCells,loadCellsFrom,storeCells]
theorem aHQ {b o:Nat} {vs:List Value} (h:SimE C V a w fz ρ) (A:∀ (j:Nat) (v:Value),vs[j]? =some v->fz.cell b (o+j)=some v):∀j u,vs[j]? =some u->w.cell? ((⟨b,o,none⟩:Addr).add j)=some u:=by intro j u D;rw[xQ];exact h.fcell _ _ _ (A j u D)
theorem vE {z:Value} (h:z.cells.toList.all Value.oneCell'=true) (n:Nat):∀u∈(Builtin.zeroCells z.cells n).toList,u.oneCell'=true:=by intro u hu;rw[show(Builtin.zeroCells z.cells n).toList=(List.replicate n z.cells.toList).flatten from kH z.cells n]at hu;grind [List.mem_flatten,List.all_eq_true]
theorem mP (h:SimE C V a w fz ρ) {t e:TypeId} {s x:Operand} (M:o.op=.call {callee:=.builtin .append,args:=#[s,x],argTypes:=#[t,t]}) (ht:P.underlying t=some (.slice e)) {i:TypeInfo} {z:Value} (hi:P.info? e=some i) (hz:i.zero=some z) (O:z.cells.size=i.size) (aw:z.cells.toList.all Value.oneCell'=true) {rows new:List (List AV)} {base:Option Addr} {cap:Nat} (hs:a.eval s=.slice base rows.length cap) (hb:(base=none/\rows=[]/\cap=0)\/ ∃ad,base=some ad/\(rows=[]\/ ∃b o',ad=⟨b,o',none⟩/\HoldsR fz rows i.size b o')) {L o2 c2:Nat} (hx:a.eval x=.slice (some ⟨L,o2,none⟩) new.length c2) (hR:HoldsR fz new i.size L o2) (G:cap<rows.length+new.length) (D:(rows.length+new.length)*i.bytes<=140737488355328) (ae:rows.length+new.length<=4611686018427387904) (hd:∀i,o.dst=some i->i<C.N): ∀Q:Exit->Act->World->Prop,o.wpIn (fen C) 0 P a w (fun a' w'=>Sim C (V.putO o.dst (.own e i.size (rows++new))) a' w') Q:=by
 intro Q;have hm:rows.length+new.length<=maxLen:=by grind [maxLen]
 have hlen:(rows++new).length=rows.length+new.length:=List.length_append;obtain⟨I,S,af,ar⟩:=HoldsR.list new i.size L o2 hR;have U:=aHQ h af;have E:=h.fz_new (Nat.le_refl _);rcases hb with⟨rfl,rfl,rfl⟩|⟨W,rfl,J⟩;{simp only[List.length_nil,Nat.zero_add,List.nil_append]at G D ae hm hlen|-;have Y:=run_append_nil (P:=P) w t o.type e i z ht hi hz ⟨L,o2,none⟩ new.length c2 I S U G (by omega) (by omega);have hr:=vB (P:=P) (w:=w) M (by rw[hs,hx];omega);refine cP hr ?_;have Z:=grownCap_ge w new.length 0 e;refine h.grown hd (pre:=I) (pO w _) (nK w _) S ?_ Z (grownCap_le_maxLen w _ _ _ hm) ?_ ?_;{simp};{refine⟨?_,fun u hu=>?_⟩;{simp only[Array.size_append,List.size_toArray,size_zeroCells,O,S,<-Nat.add_mul];congr 1;omega};grind [Array.toList_append,vE]};{refine HoldsR.copy (Fz.le_add E.1) new i.size L o2 _ 0 hR fun j hj v hv=>?_;simp_all [Fz.add,if_true,Nat.zero_add]}}
 ·have key:∃A:List Value,A.length=rows.length*i.size/\(∀j u,A[j]? =some u->w.cell? (W.add j)=some u)/\(∀u∈A,u.oneCell'=true)/\
   ∀ (fz':Fz) (g:Nat),fz.le fz'->(∀j (hj:j<A.length),fz'.cell g j=some A[j])->HoldsR fz' rows i.size g 0:=by
   rcases J with rfl|⟨b1,o1,rfl,J⟩
   ·simp[HoldsR]
   ·obtain⟨A,l1,ah,K⟩:=HoldsR.list rows i.size b1 o1 J
    refine⟨A,l1,aHQ h ah,K,fun fz' g hle hc=>HoldsR.copy hle rows i.size b1 o1 g 0 J fun j hj v hv=>?_⟩
    simp_all
  obtain⟨A,l1,ai,K,aj⟩:=key;have Y:=run_append_grow (P:=P) w t o.type e i z ht hi hz W rows.length cap A l1 ai ⟨L,o2,none⟩ new.length c2 I S U G (by omega) (growslice_fits G D);have hr:=vB (P:=P) (w:=w) M (by rw[hs,hx];omega);refine cP hr ?_;have Z:=grownCap_ge w (rows.length+new.length) cap e;rw[<-hlen];refine h.grown hd (pre:=A++I) (pO w _) (by rw[hlen];exact nK w _) (by grind) ?_ (by simp[*]) (by simp_all [grownCap_le_maxLen]) ?_ ?_;{grind};{rw[hlen];refine⟨?_,fun u hu=>?_⟩;{simp only[Array.size_append,List.size_toArray,size_zeroCells,O,l1,S,<-Nat.add_mul];congr 1;omega};grind [Array.toList_append,vE]};{refine HoldsR.append rows new _ _ _ ?_ ?_;{refine aj _ _ (Fz.le_add E.1) fun j hj=>?_;simp only[Fz.add,if_true];grind};{refine HoldsR.copy (Fz.le_add E.1) new i.size L o2 _ _ hR fun j hj v hv=>?_;simp_all [Fz.add,if_true,Nat.zero_add,List.getElem?_append_right,Nat.add_sub_cancel_left]}}
theorem zB (h:SimE C V a w fz ρ) (s:Operand):SimE C (V.demP (gK s)) a w fz ρ:=by cases s<;>first|exact h|exact h.demote (p:=.t _) trivial
theorem bUN (h:SimE C V a w fz ρ) {t e:TypeId} {s x:Operand} (O:o.op=.call {callee:=.builtin .append,args:=#[s,x],argTypes:=#[t,t]}) (ht:P.underlying t=some (.slice e)) {i:TypeInfo} {z:Value} (hi:P.info? e=some i) (hz:i.zero=some z) (aa:z.cells.size=i.size) (ab:z.cells.toList.all Value.oneCell'=true) {ef:Eff} (he:cMJ e i.size i.bytes s [V.ev s,V.ev x]=some ef) (bh:ef.ob) (hd:∀i,o.dst=some i->i<C.N) (bi:∀t,s=.tmp t->o.dst≠some t):cI P C V a w o ef:=by
 have a1:=h.ev x;have I:=h.ev s;have D:=zB h s;unfold cMJ at he;split at he
 ·rename_i sv xv heq;simp only[List.cons.injEq,and_true]at heq;obtain⟨e1,e2⟩:=heq;rw[e1]at I;rw[e2]at a1;split at he
  ·rename_i rows new A bj;obtain⟨ad,c2,S,b3,bk⟩:=aAT bj a1;split at he
   ·rename_i b4;cases he;obtain⟨ac,ae,bl⟩:=bh;intro Q;show o.wpIn (fen C) 0 P a w (fun a' w'=>Sim C (((V.demP (gK s)).setBO none).putO o.dst (.own e i.size (rows++new))) a' w') Q;simp only[View.setBO];have stays:∀ (base:Option Addr) (cap:Nat),new=[]->a.eval s=.slice base rows.length cap->rows.length<=cap->(execOp a.eval o).run P w=.ok (.value (.slice base rows.length cap)) w:=(by intro base cap hn E af;subst hn;exact vB O (by rw[E,S];exact aON ht hi af w));by_cases hn:new=[];{subst hn;simp only[List.append_nil];unfold bRP at A;split at A;{rename_i e' w' W;split at A;{rename_i ar;obtain⟨rfl,rfl⟩:=ar;cases A;have au:∃G,s=.tmp G:=(by cases s with|tmp G=>exact⟨G,rfl⟩|_=>simp[View.ev]at e1);obtain⟨G,rfl⟩:=au;have ai:V.tm G=.own e' i.size rows:=(by simpa[View.ev]using e1);simp only[Holds]at I;obtain⟨base,cap,E,af,_⟩:=I;refine cP (stays base cap rfl E af) ⟨fz,ρ,?_⟩;cases K:o.dst with|none=>exact D|some d=>have:=h.take (p:=.t G) trivial (d:=d) (hd d K) (fun e=>bi G rfl (by cases e;exact K)) (h.tm G);have a3:V.at (.t G)=.own e' i.size rows:=(by simp[View.at,ai]);rw[a3]at this;have Y:bM a w ρ (.t G)=.slice base rows.length cap:=E;rw[Y]at this;simp only[gK,View.demP,View.putO];rw[a3];exact this};{cases A}};{rename_i w' W;split at A;{cases A;simp[cOV]at bl};{cases A}};{cases A;simp only[Holds]at I;refine cP (stays none 0 rfl I (Nat.le_refl _)) ⟨fz,ρ,?_⟩;cases K:o.dst with|none=>exact D|some d=>refine D.putOwn (hd d K) (by simp only[Holds];exact⟨none,0,rfl,Nat.le_refl _,.inl (by simp)⟩) (.inl ⟨rfl,rfl⟩) (fun q _ _ g g' n n' c c' M _=>by cases M)};{cases A}}
    ·have aj:0<new.length:=List.length_pos_iff.2 hn;rcases bk with bm|⟨b2,o2,rfl,U⟩;{exact absurd bm hn}
     ·unfold bRP at A;split at A
      ·rename_i e' w' W;split at A
       ·rename_i ar;obtain⟨rfl,rfl⟩:=ar;cases A;have au:∃G,s=.tmp G:=(by cases s with|tmp G=>exact⟨G,rfl⟩|_=>simp[View.ev]at e1);obtain⟨G,rfl⟩:=au;have ai:V.at (.t G)=.own e' i.size rows:=(by simpa[View.ev,View.at]using e1);have an:=h.tips (.t G) _ _ _ ai;have Y:bM a w ρ (.t G)=a.eval (.tmp G):=rfl;rw[Y]at an;rcases an with⟨E,rfl⟩|⟨g,cap,cur,E,a4,av,b5,bo,ak,bp,a5,ag⟩;{exact mP D O ht hi hz aa ab (rows:=[]) (base:=none) (cap:=0) E (.inl ⟨rfl,rfl,rfl⟩) S U (by simpa using aj) ac ae hd Q}
        ·have a6:HoldsR fz rows i.size g 0:=(by simp only[Holds]at I;obtain⟨ad,bx,ao,_,hr⟩:=I;rw[E]at ao;cases ao;rcases hr with rfl|⟨b,oo,hr,hR⟩;{simp[HoldsR]};{cases hr;exact hR});by_cases L:rows.length+new.length<=cap
         ·obtain⟨J,l2,a8,ap⟩:=HoldsR.list new i.size b2 o2 U;have bq:=aHQ h a8;have a9:rows.length*i.size+J.length<=cur.size:=(by rw[l2,ak.1,<-Nat.add_mul];exact Nat.mul_le_mul_right _ L);have ba:=run_append_room (P:=P) w t o.type e' i ht hi g rows.length cap cur av ⟨b2,o2,none⟩ new.length c2 J l2 bq ap L a9;have hr:=vB (P:=P) (w:=w) O (by rw[E,S];exact ba);refine cP hr ?_;let fz':Fz:={cell:=fun b o=>if b=g then(if rows.length*i.size<=o then J[o-rows.length*i.size]? else fz.cell g o)else fz.cell b o,obj:=fz.obj}
          have hle:fz.le fz':=(by refine⟨fun b o v M=>?_,fun b o M=>M⟩;simp only[fz'];split;{rename_i hb;subst hb;split;{rename_i ho;rw[bp o ho]at M;cases M};{exact M}};{exact M});have aq:=setRow_heap w g cur (cur.toList.take (rows.length*i.size)++J++cur.toList.drop (rows.length*i.size+J.length)).toArray e' (0,0) av;have bc:∀p,aG ((V.demP (gK (.tmp G))).at p)=true->p≠ .t G/\V.at p=(V.demP (gK (.tmp G))).at p:=(by intro p hp;simp only[gK,View.demP]at hp|-;rw[View.at_setAt V (.t G) p _ trivial]at hp|-;by_cases e:p=.t G;{rw[if_pos e,cV]at hp;cases hp};{exact⟨e,by rw[if_neg e]⟩});have Z:∀p,aG ((V.demP (gK (.tmp G))).at p)=true-> ∀ad n c,bM a w ρ p=.slice (some ad) n c->ad.block≠g:=(by intro p hp ad n c hc heq;obtain⟨p1,p2⟩:=bc p hp;exact p1 (h.tipinj p (.t G) (by rw[p2];exact hp) (by rw[ai];rfl) ad ⟨g,0,none⟩ n rows.length c cap hc E heq));have bd:=D.spare (g:=g) a4 ag Z (w':=w.setRow g (cur.toList.take (rows.length*i.size)++J++cur.toList.drop (rows.length*i.size+J.length)).toArray) rfl rfl ⟨rfl,fun _=>Nat.le_refl _⟩ (aAE _ _ _) (fun k hk=>setRow_other w g k _ hk) (fz':=fz') hle a5
           (fun oo v M=>by
            simp only[World.cell?,aq,Option.isSome_none,Bool.false_eq_true,if_false,List.getElem?_toArray]
            simp only[fz',if_true]at M
            split at M
            ·rename_i ho
             rw[List.append_assoc,List.getElem?_append_right (by simp;omega)]
             have be:min (rows.length*i.size) cur.size=rows.length*i.size:=by omega
             simp only[List.length_take,Array.length_toList,be]
             obtain⟨bu,_⟩:=List.getElem?_eq_some_iff.1 M
             rw[List.getElem?_append_left bu];exact M
            ·rename_i ho
             have hold:=h.fcell g oo v M
             simp only[World.cell?,av,Option.isSome_none,Bool.false_eq_true,if_false]at hold
             rw[List.append_assoc,List.getElem?_append_left (by simp;omega),List.getElem?_take,if_pos (by omega)]
             simpa using hold)
           (fun b hb=>⟨fun oo=>by simp only[fz',hb,if_false],rfl⟩)
          refine⟨fz',ρ,?_⟩;have hlen:(rows++new).length=rows.length+new.length:=List.length_append;cases K:o.dst with|none=>exact bd|some d=>have hR:HoldsR fz' (rows++new) i.size g 0:=(by refine HoldsR.append rows new _ _ _ (a6.mono hle _ _ _ _) ?_;refine HoldsR.copy hle new i.size b2 o2 _ _ U fun j hj v M=>?_;simp only[fz',if_true,Nat.zero_add];rw[if_pos (by omega),Nat.add_sub_cancel_left];have b8:j<J.length:=(by omega);have:=a8 j J[j] (by simp);rw[M]at this;cases this;simp);rw[<-hlen];refine bd.putOwn (hd d K) (by simp only[Holds];exact⟨_,_,rfl,by rw[hlen];exact L,.inr ⟨_,_,rfl,hR⟩⟩) (.inr ⟨g,cap,_,rfl,a4,aq,by rw[hlen];exact L,bo,?_,fun oo ho=>?_,a5,ag⟩) (fun q _ bf g1 g2 n1 n2 c1 c2 M hc=>?_);{have b0:=ak.1;refine⟨?_,fun u hu=>?_⟩;{simp only[List.size_toArray,List.length_append,List.length_take,List.length_drop,Array.length_toList];omega};{simp only[List.mem_append]at hu;rcases hu with(hu|hu)|hu;{exact ak.2 u (List.mem_of_mem_take hu)};{exact ap u hu};{exact ak.2 u (List.mem_of_mem_drop hu)}}};{simp only[fz',if_true];rw[hlen,Nat.add_mul]at ho;rw[if_pos (by omega)];exact List.getElem?_eq_none (by omega)};{cases M;have bv:=D.conc_same (w':=w.setRow g (cur.toList.take (rows.length*i.size)++J++cur.toList.drop (rows.length*i.size+J.length)).toArray) bf (Ren.le_refl _) (fun b j c _ hc=>setRow_other w g c _ (fun e=>ag b (by rw[<-e];exact hc)));rw[bv]at hc;exact fun e=>Z q bf _ _ _ hc e.symm}
         {exact mP D O ht hi hz aa ab E (.inr ⟨_,rfl,.inr ⟨g,0,rfl,a6⟩⟩) S U (by omega) ac ae hd Q}
       {cases A}
      {rename_i w' W;split at A;{rename_i bw;subst bw;cases A;simp only[Holds]at I;obtain⟨base,E,hr⟩:=I;rcases hr with rfl|⟨b,oo,rfl,hR⟩;{cases base with|none=>exact mP D O ht hi hz aa ab (rows:=[]) E (.inl ⟨rfl,rfl,rfl⟩) S U (by simpa using aj) ac ae hd Q|some ad=>exact mP D O ht hi hz aa ab (rows:=[]) E (.inr ⟨ad,rfl,.inl rfl⟩) S U (by simpa using aj) ac ae hd Q};{exact mP D O ht hi hz aa ab E (.inr ⟨_,rfl,.inr ⟨b,oo,rfl,hR⟩⟩) S U (by omega) ac ae hd Q}};{cases A}};{cases A;simp only[Holds]at I;exact mP D O ht hi hz aa ab (rows:=[]) (base:=none) (cap:=0) I (.inl ⟨rfl,rfl,rfl⟩) S U (by simpa using aj) ac ae hd Q};{cases A}
   {cases he}
  {cases he}
 simp_all
end Go.Aw
end
section
namespace Go.Aw
variable [GL]
variable {P:Program} {C:Ctx} {V:View} {a:Act} {w:World} {fz:Fz} {ρ:Ren} {o:Oper} {Q:Exit->Act->World->Prop}
theorem HoldsR.bytes {fz:Fz}:∀ (l:List UInt8) (g o:Nat),(∀ (j:Nat) (b:UInt8),l[j]? =some b->fz.cell g (o+j)=some (.int .u8 b.toNat))->HoldsR fz (l.map fun b=>[AV.val (.int .u8 (b.toNat:Int))]) 1 g o
 |[],_,_,_=>by simp[List.map_nil,HoldsR]
 |b::l,g,o,h=>by simp only[List.map_cons,HoldsR,HoldsC];refine⟨rfl,⟨⟨_,h 0 b rfl,rfl,by simp only[Holds]⟩,trivial⟩,HoldsR.bytes l g (o+1) fun j c A=>?_⟩;have:=h (j+1) c (by simpa using A);grind
theorem bEK (s:ByteArray):(fW s).length=s.size:=by simp[fW,List.length_map,Array.length_toList]
theorem aGK (s:ByteArray) (j:Nat):(Lib.strCells s)[j]? =(s.data.toList[j]?).map fun b=>Value.int .u8 b.toNat:=by simp[Lib.strCells,List.getElem?_map]
theorem aMC {t u:TypeId} {s x:Operand} (A:o.op=.call {callee:=.builtin .append,args:=#[s,x],argTypes:=#[t,u]}) {v:Value} {w':World} (D:(Builtin.append_ #[t,u] o.type #[a.eval s,a.eval x]).run P w=.ok v w'):(execOp a.eval o).run P w=.ok (.value v) w':=by simp[execOp,A,resolve,invoke,builtin,D]
theorem aVQ {t u e:TypeId} {i:TypeInfo} (G:P.underlying t=some (.slice e)) (hu:P.underlying u=some .string) (hi:P.info? e=some i) (I:i.size=1) {ty:TypeId} {base:Option Addr} {n cap:Nat} (A:n<=cap) {x:ByteArray} (D:x.size=0) (w:World): (Builtin.append_ #[t,u] ty #[.slice base n cap,.string x]).run P w=.ok (.slice base n cap) w:=by have E:=Lib.run_firstCells_string (P:=P) w 1 x;rw[D]at E;have he:Lib.strCells x=[]:=List.eq_nil_of_length_eq_zero (by rw[Lib.strCells_length,D]);rw[he]at E;cases base<;>simp[Builtin.append_,run_underlying G,run_underlying hu,sizeOf,typeInfo,hi,I,Builtin.lenOf,A,D,E,storeCells]
theorem bLU (h:SimE C V a w fz ρ) {t u e:TypeId} {s x:Operand} (al:o.op=.call {callee:=.builtin .append,args:=#[s,x],argTypes:=#[t,u]}) (ht:P.underlying t=some (.slice e)) (hu:P.underlying u=some .string) {i:TypeInfo} {z:Value} (hi:P.info? e=some i) (hz:i.zero=some z) (am:i.size=1) (bh:z.cells.size=1) (bi:z.cells.toList.all Value.oneCell'=true) {ef:Eff} (he:bSU e i.bytes s [V.ev s,V.ev x]=some ef) (bk:ef.ob) (hd:∀i,o.dst=some i->i<C.N) (bl:∀t,s=.tmp t->o.dst≠some t):cI P C V a w o ef:=by
 have W:=h.ev x;have L:=h.ev s;have I:=zB h s;unfold bSU at he;split at he
 ·rename_i sv str heq;simp only[List.cons.injEq,and_true]at heq;obtain⟨e1,e2⟩:=heq;rw[e1]at L;rw[e2]at W;simp only[Holds]at W;split at he
  ·rename_i rows A;cases he;obtain⟨a1,b3⟩:=bk;have an:=bEK str;intro Q;show o.wpIn (fen C) 0 P a w (fun a' w'=>Sim C (((V.demP (gK s)).setBO none).putO o.dst (.own e 1 (rows++fW str))) a' w') Q;simp only[View.setBO];have stays:∀ (base:Option Addr) (cap:Nat),str.size=0->a.eval s=.slice base rows.length cap->rows.length<=cap->(execOp a.eval o).run P w=.ok (.value (.slice base rows.length cap)) w:=(by intro base cap hn E Y;exact aMC al (by rw[E,W];exact aVQ ht hu hi am Y hn w));have fresh:∀ (base:Option Addr) (cap:Nat) (D:List Value),a.eval s=.slice base rows.length cap->(base=none/\rows=[]/\cap=0/\D=[]\/ ∃ad,base=some ad/\ ∀j u,D[j]? =some u->w.cell? (ad.add j)=some u)->
    D.length=rows.length->(∀u∈D,u.oneCell'=true)->(∀ (fz':Fz) (g:Nat),fz.le fz'->(∀j (hj:j<D.length),fz'.cell g j=some D[j])->HoldsR fz' rows 1 g 0)->0<str.size->cap<rows.length+str.size->
    o.wpIn (fen C) 0 P a w (fun a' w'=>Sim C ((V.demP (gK s)).putO o.dst (.own e 1 (rows++fW str))) a' w') Q:=by
    intro base cap D E hb l1 Z bm J af
    have hm:rows.length+str.size<=maxLen:=by simp only[maxLen];omega
    have hlen:(rows++fW str).length=rows.length+str.size:=by rw[List.length_append,an]
    have l2:=Lib.strCells_length str
    have aa:=Lib.strCells_oneCell str
    have a3:=I.fz_new (Nat.le_refl _)
    have ab:(Builtin.append_ #[t,u] o.type #[.slice base rows.length cap,.string str]).run P w=.ok (.slice (some ⟨w.heap.size,0,none⟩) (rows.length+str.size) (grownCap w (rows.length+str.size) cap e))
     (w.drew.alloc (.cells (D.toArray++(Lib.strCells str).toArray++Builtin.zeroCells z.cells (grownCap w (rows.length+str.size) cap e-(rows.length+str.size))) e)):=by
     rcases hb with⟨rfl,rfl,rfl,rfl⟩|⟨ad,rfl,bo⟩
     ·have:=run_append_nil_string (P:=P) w t u o.type e i z ht hu hi hz str J (by omega) (by simp only[List.length_nil,Nat.zero_add]at a1;omega)
      simp only[List.length_nil,Nat.zero_add]
      rw[this]
      congr 3
      simp only[Lib.strCells]
      apply Array.ext'
      simp
     ·have:=Lib.run_append_grow_string (P:=P) w t u o.type e i z ht hu hi hz ad rows.length cap D (by rw[l1,am,Nat.mul_one]) bo str af (by omega) (growslice_fits af a1)
      exact this
    have hr:=aMC (P:=P) (w:=w) al (by rw[E,W];exact ab)
    refine cP hr ?_
    have bp:=grownCap_ge w (rows.length+str.size) cap e
    rw[<-hlen]
    refine I.grown hd (pre:=D++Lib.strCells str) (pO w _) (by rw[hlen];exact nK w _) (by rw[List.length_append,l1,l2,hlen,Nat.mul_one]) ?_ (by rw[hlen];exact bp) (by rw[hlen];exact grownCap_le_maxLen w _ _ _ hm) ?_ ?_
    ·simp only[Array.toList_append,List.append_assoc]
     rw[<-List.append_assoc]
     exact List.take_left
    ·rw[hlen]
     refine⟨?_,fun u hu=>?_⟩
     ·simp only[Array.size_append,List.size_toArray,size_zeroCells,bh,l1,l2]
      omega
     ·simp only[Array.toList_append,List.mem_append]at hu
      rcases hu with(hu|hu)|hu
      ·exact Z u hu
      ·exact aa u hu
      ·exact vE bi _ u hu
    ·refine HoldsR.append rows (fW str) _ _ _ ?_ ?_
     ·refine bm _ _ (Fz.le_add a3.1) fun j hj=>?_
      simp only[Fz.add,if_true]
      rw[List.getElem?_append_left hj];simp
     ·refine HoldsR.bytes _ _ _ fun j b hj=>?_
      simp only[Fz.add,if_true,Nat.zero_add]
      rw[List.getElem?_append_right (by omega),l1,Nat.mul_one,Nat.add_sub_cancel_left,aGK,hj];rfl
   by_cases hn:str.size=0;{have bq:fW str=[]:=List.eq_nil_of_length_eq_zero (by rw[an,hn]);rw[bq,List.append_nil];unfold bRO at A;split at A;{rename_i e' w' aq;split at A;{rename_i ar;obtain⟨rfl,rfl⟩:=ar;cases A;have au:∃G,s=.tmp G:=(by cases s with|tmp G=>exact⟨G,rfl⟩|_=>simp[View.ev]at e1);obtain⟨G,rfl⟩:=au;have ag:V.tm G=.own e' 1 rows:=(by simpa[View.ev]using e1);simp only[Holds]at L;obtain⟨base,cap,E,Y,_⟩:=L;refine cP (stays base cap hn E Y) ⟨fz,ρ,?_⟩;cases K:o.dst with|none=>exact I|some d=>have:=h.take (p:=.t G) trivial (d:=d) (hd d K) (fun e=>bl G rfl (by cases e;exact K)) (h.tm G);have a4:V.at (.t G)=.own e' 1 rows:=(by simp[View.at,ag]);rw[a4]at this;have O:bM a w ρ (.t G)=.slice base rows.length cap:=E;rw[O]at this;simp only[gK,View.demP,View.putO];rw[a4];exact this};{cases A}};{cases A;simp only[Holds]at L;refine cP (stays none 0 hn L (Nat.le_refl _)) ⟨fz,ρ,?_⟩;cases K:o.dst with|none=>exact I|some d=>refine I.putOwn (hd d K) (by simp only[Holds];exact⟨none,0,rfl,Nat.le_refl _,.inl (by simp)⟩) (.inl ⟨rfl,rfl⟩) (fun q _ _ g g' n n' c c' M _=>by cases M)};{cases A}}
   ·have J:0<str.size:=Nat.pos_of_ne_zero hn;unfold bRO at A;split at A
    ·rename_i e' w' aq;split at A
     ·rename_i ar;obtain⟨rfl,rfl⟩:=ar;cases A;have au:∃G,s=.tmp G:=(by cases s with|tmp G=>exact⟨G,rfl⟩|_=>simp[View.ev]at e1);obtain⟨G,rfl⟩:=au;have ag:V.at (.t G)=.own e' 1 rows:=(by simpa[View.ev,View.at]using e1);have ah:=h.tips (.t G) _ _ _ ag;have O:bM a w ρ (.t G)=a.eval (.tmp G):=rfl;rw[O]at ah;rcases ah with⟨E,rfl⟩|⟨g,cap,cur,E,a5,av,b4,bt,aw,bu,a6,ac⟩;{exact fresh none 0 [] E (.inl ⟨rfl,rfl,rfl,rfl⟩) rfl (by simp) (fun _ _ _ _=>by simp[HoldsR]) J (by simpa using J)}
      ·have ax:HoldsR fz rows 1 g 0:=(by simp only[Holds]at L;obtain⟨ad,b1,ai,_,hr⟩:=L;rw[E]at ai;cases ai;rcases hr with rfl|⟨b,oo,hr,hR⟩;{simp[HoldsR]};{cases hr;exact hR});by_cases S:rows.length+str.size<=cap
       ·have l2:=Lib.strCells_length str;have aa:=Lib.strCells_oneCell str;have a7:=aw.1;rw[Nat.mul_one]at a7;have ab:=Lib.run_append_room_string (P:=P) w t u o.type e' i ht hu hi am g rows.length cap cur av str S (by omega);have hr:=aMC (P:=P) (w:=w) al (by rw[E,W];exact ab);refine cP hr ?_;let fz':Fz:={cell:=fun b o=>if b=g then(if rows.length<=o then(Lib.strCells str)[o-rows.length]? else fz.cell g o)else fz.cell b o,obj:=fz.obj}
        have hle:fz.le fz':=(by refine⟨fun b o v M=>?_,fun b o M=>M⟩;simp only[fz'];split;{rename_i hb;subst hb;split;{rename_i ho;rw[bu o (by omega)]at M;cases M};{exact M}};{exact M});have aj:=setRow_heap w g cur (cur.toList.take rows.length++Lib.strCells str++cur.toList.drop (rows.length+str.size)).toArray e' (0,0) av;have a8:∀p,aG ((V.demP (gK (.tmp G))).at p)=true->p≠ .t G/\V.at p=(V.demP (gK (.tmp G))).at p:=(by intro p hp;simp only[gK,View.demP]at hp|-;rw[View.at_setAt V (.t G) p _ trivial]at hp|-;by_cases e:p=.t G;{rw[if_pos e,cV]at hp;cases hp};{exact⟨e,by rw[if_neg e]⟩});have U:∀p,aG ((V.demP (gK (.tmp G))).at p)=true-> ∀ad n c,bM a w ρ p=.slice (some ad) n c->ad.block≠g:=(by intro p hp ad n c hc heq;obtain⟨p1,p2⟩:=a8 p hp;exact p1 (h.tipinj p (.t G) (by rw[p2];exact hp) (by rw[ag];rfl) ad ⟨g,0,none⟩ n rows.length c cap hc E heq));have a9:=I.spare (g:=g) a5 ac U (w':=w.setRow g (cur.toList.take rows.length++Lib.strCells str++cur.toList.drop (rows.length+str.size)).toArray) rfl rfl ⟨rfl,fun _=>Nat.le_refl _⟩ (aAE _ _ _) (fun k hk=>setRow_other w g k _ hk) (fz':=fz') hle a6
         (fun oo v M=>by
          simp only[World.cell?,aj,Option.isSome_none,Bool.false_eq_true,if_false,List.getElem?_toArray]
          simp only[fz',if_true]at M
          split at M
          ·rename_i ho
           rw[List.append_assoc,List.getElem?_append_right (by simp;omega)]
           have ba:min rows.length cur.size=rows.length:=by omega
           simp only[List.length_take,Array.length_toList,ba]
           obtain⟨af,_⟩:=List.getElem?_eq_some_iff.1 M
           rw[List.getElem?_append_left af];exact M
          ·rename_i ho
           have hold:=h.fcell g oo v M
           simp only[World.cell?,av,Option.isSome_none,Bool.false_eq_true,if_false]at hold
           rw[List.append_assoc,List.getElem?_append_left (by simp;omega),List.getElem?_take,if_pos (by omega)]
           simpa using hold)
         (fun b hb=>⟨fun oo=>by simp only[fz',hb,if_false],rfl⟩)
        refine⟨fz',ρ,?_⟩;have hlen:(rows++fW str).length=rows.length+str.size:=(by rw[List.length_append,an]);cases K:o.dst with|none=>exact a9|some d=>have hR:HoldsR fz' (rows++fW str) 1 g 0:=(by refine HoldsR.append rows (fW str) _ _ _ (ax.mono hle _ _ _ _) ?_;refine HoldsR.bytes _ _ _ fun j b hj=>?_;simp only[fz',if_true,Nat.zero_add,Nat.mul_one];rw[if_pos (by omega),Nat.add_sub_cancel_left,aGK,hj];rfl);rw[show Value.slice (some ⟨g,0,none⟩) (rows.length+str.size) cap=Value.slice (some ⟨g,0,none⟩) (rows++fW str).length cap from by rw[hlen]];refine a9.putOwn (hd d K) (by simp only[Holds];exact⟨_,_,rfl,by rw[hlen];exact S,.inr ⟨_,_,rfl,hR⟩⟩) (.inr ⟨g,cap,_,rfl,a5,aj,by rw[hlen];exact S,bt,?_,fun oo ho=>?_,a6,ac⟩) (fun q _ bb g1 g2 n1 n2 c1 c2 M hc=>?_);{refine⟨?_,fun u hu=>?_⟩;{simp only[List.size_toArray,List.length_append,List.length_take,List.length_drop,Array.length_toList];omega};{simp only[List.mem_append]at hu;rcases hu with(hu|hu)|hu;{exact aw.2 u (List.mem_of_mem_take hu)};{exact aa u hu};{exact aw.2 u (List.mem_of_mem_drop hu)}}};{simp only[fz',if_true];rw[hlen]at ho;rw[if_pos (by omega)];exact List.getElem?_eq_none (by omega)};{cases M;have bw:=I.conc_same (w':=w.setRow g (cur.toList.take rows.length++Lib.strCells str++cur.toList.drop (rows.length+str.size)).toArray) bb (Ren.le_refl _) (fun b j c _ hc=>setRow_other w g c _ (fun e=>ac b (by rw[<-e];exact hc)));rw[bw]at hc;exact fun e=>U q bb _ _ _ hc e.symm}
       {obtain⟨D,l1,bc,Z⟩:=HoldsR.list rows 1 g 0 ax;refine fresh (some ⟨g,0,none⟩) cap D E (.inr ⟨_,rfl,aHQ h bc⟩) (by rw[l1,Nat.mul_one]) Z (fun fz' g' hle hc=>HoldsR.copy hle rows 1 g 0 g' 0 ax fun j hj v M=>?_) J (by omega);have bx:j<D.length:=(by omega);have:=bc j D[j] (by simp);rw[M]at this;cases this;rw[Nat.zero_add];exact hc j bx}
     {cases A}
    {cases A;simp only[Holds]at L;exact fresh none 0 [] L (.inl ⟨rfl,rfl,rfl,rfl⟩) rfl (by simp) (fun _ _ _ _=>by simp[HoldsR]) J (by simpa using J)};{cases A}
  {cases he}
 simp_all
end Go.Aw
end
