/- Abstract values: what a value of the program aMX aSx, aSx a tree; slices that may still grow are marked aSx owned. -/
import Derived.Tactics
import Derived.Laws.AppendOwn
import Derived.Orders
set_option linter.unusedSimpArgs false
set_option linter.unusedVariables false
set_option linter.unusedSectionVars false
section
namespace Go.Aw
inductive AV where
 |unk
 |val (v:Value)
 |agg (l:List AV)
 |tup (l:List AV)
 |rd (w:Nat) (rows:List (List AV))
 |fx (w:Nat) (rows:List (List AV))
 |own (e:TypeId) (w:Nat) (rows:List (List AV))
 |elt (w:Nat) (rows:List (List AV)) (i k:Nat)
 |ptr (b off:Nat)
 |vec (b w off n cap:Nat)
 |mapr (b:Nat)
 |rmap (ks:List Value) (vs:List AV)
 |kset (ks:List Value) (u:Value->Value)
 |clo (fn:Fn) (caps:List AV)
 |ifc (t:TypeId) (x:AV)
 deriving Inhabited
structure Fz where
 cell:Nat->Nat->Option Value
 obj:Nat->Option Obj
abbrev Ren:=Nat->Option Nat
def bT:Ren:=fun _=>none
def cPN (fn:Fn) (cs:Array Value):Value:=match fn with
 | .methodOf f _=>.func (.func f) cs #[]
 |fn=>.func fn #[] cs
theorem cGD (fn:Fn) (cs:Array Value):(cPN fn cs).oneCell'=true:=by cases fn<;>rfl
mutual
def Holds (fz:Fz):AV->Ren->Value->Prop
 | .unk,_,_=>True
 | .val u,_,v=>v=u
 | .agg l,ρ,v=>∃cs:Array Value,v=.agg cs/\HoldsL fz l ρ cs.toList
 | .tup l,ρ,v=>∃cs:Array Value,v=.tuple cs/\HoldsL fz l ρ cs.toList
 | .rd w rows,_,v=>∃a c,v=.slice a rows.length c/\rows.length<=c/\
  (rows=[]\/ ∃b o,a=some ⟨b,o,none⟩/\HoldsR fz rows w b o)
 | .fx w rows,_,v=>∃a,v=.slice a rows.length rows.length/\
  (rows=[]\/ ∃b o,a=some ⟨b,o,none⟩/\HoldsR fz rows w b o)
 | .own _ w rows,_,v=>∃a c,v=.slice a rows.length c/\rows.length<=c/\
  (rows=[]\/ ∃b o,a=some ⟨b,o,none⟩/\HoldsR fz rows w b o)
 | .elt w rows i k,_,v=>∃b o,v=.pointer (some ⟨b,o+(i*w+k),none⟩)/\HoldsR fz rows w b o
 | .ptr b off,ρ,v=>∃c,ρ b=some c/\v=.pointer (some ⟨c,off,none⟩)
 | .vec b _ off n cap,ρ,v=>∃c,ρ b=some c/\v=.slice (some ⟨c,off,none⟩) n cap
 | .mapr b,ρ,v=>∃c,ρ b=some c/\v=.map (some c)
 | .rmap ks vs,_,v=>(v=.map none/\ks=[]/\vs=[])\/ ∃c es clock,v=.map (some c)/\fz.obj c=some (.map es clock)/\
  es.toList.map (·.key)=ks/\HoldsL fz vs bT (es.toList.map (·.val))
 | .kset ks u,_,v=>(v=.map none/\ks=[])\/ ∃c es clock,v=.map (some c)/\fz.obj c=some (.map es clock)/\(∀e∈es.toList,e.val=u e.key/\e.key∈ks)/\ ∀k∈ks,∃e∈es.toList,e.key=k
 | .clo fn A,ρ,v=>∃cs:Array Value,v=cPN fn cs/\HoldsL fz A ρ cs.toList
 | .ifc t x,ρ,v=>∃u,v=.iface t u/\Holds fz x ρ u
def HoldsL (fz:Fz):List AV->Ren->List Value->Prop
 |[],_,vs=>vs=[]
 |x::xs,ρ,vs=>∃v r,vs=v::r/\Holds fz x ρ v/\HoldsL fz xs ρ r
def HoldsC (fz:Fz):List AV->Nat->Nat->Prop
 |[],_,_=>True
 |x::xs,b,o=>(∃u,fz.cell b o=some u/\u.oneCell'=true/\Holds fz x bT u)/\HoldsC fz xs b (o+1)
def HoldsR (fz:Fz):List (List AV)->Nat->Nat->Nat->Prop
 |[],_,_,_=>True
 |r::A,w,b,o=>r.length=w/\HoldsC fz r b o/\HoldsR fz A w b (o+w)
end
def Fz.le (f g:Fz):Prop:=(∀b o v,f.cell b o=some v->g.cell b o=some v)/\(∀b o,f.obj b=some o->g.obj b=some o)
theorem Fz.le_refl (f:Fz):f.le f:=⟨fun _ _ _ h=>h,fun _ _ h=>h⟩
theorem Fz.le_trans {f g h:Fz} (a:f.le g) (b:g.le h):f.le h:=⟨fun x o v e=>b.1 x o v (a.1 x o v e),fun x o e=>b.2 x o (a.2 x o e)⟩
def Ren.le (f g:Ren):Prop:=∀b c,f b=some c->g b=some c
theorem Ren.le_refl (f:Ren):Ren.le f f:=fun _ _ h=>h
theorem Ren.le_trans {f g h:Ren} (a:Ren.le f g) (b:Ren.le g h):Ren.le f h:=fun x c e=>b x c (a x c e)
theorem aAQ (f:Ren):Ren.le bT f:=fun _ _ h=>by cases h
mutual
theorem Holds.mono {fz fz':Fz} (D:fz.le fz'):∀ (x:AV) (ρ ρ':Ren) (v:Value),Ren.le ρ ρ'->Holds fz x ρ v->Holds fz' x ρ' v
 | .unk,_,_,_,_,_=>by assumption
 | .val u,_,_,_,_,h=>by assumption
 | .agg l,ρ,ρ',v,A,h=>by (simp only[Holds]at h|-;obtain⟨cs,e,h⟩:=h;exact⟨cs,e,HoldsL.mono D l ρ ρ' _ A h⟩)| .tup l,ρ,ρ',v,A,h=>by (simp only[Holds]at h|-;obtain⟨cs,e,h⟩:=h;exact⟨cs,e,HoldsL.mono D l ρ ρ' _ A h⟩)| .rd w rows,ρ,ρ',v,A,h=>by (simp only[Holds]at h|-;obtain⟨a,c,e,l,h⟩:=h;exact⟨a,c,e,l,h.imp id fun⟨b,o,e,h⟩=>⟨b,o,e,HoldsR.mono D rows w b o h⟩⟩)| .fx w rows,ρ,ρ',v,A,h=>by (simp only[Holds]at h|-;obtain⟨a,e,h⟩:=h;exact⟨a,e,h.imp id fun⟨b,o,e,h⟩=>⟨b,o,e,HoldsR.mono D rows w b o h⟩⟩)| .own _ w rows,ρ,ρ',v,A,h=>by (simp only[Holds]at h|-;obtain⟨a,c,e,l,h⟩:=h;exact⟨a,c,e,l,h.imp id fun⟨b,o,e,h⟩=>⟨b,o,e,HoldsR.mono D rows w b o h⟩⟩)| .elt w rows i k,ρ,ρ',v,A,h=>by (simp only[Holds]at h|-;obtain⟨b,o,e,h⟩:=h;exact⟨b,o,e,HoldsR.mono D rows w b o h⟩)| .ptr b off,ρ,ρ',v,A,h=>by (simp only[Holds]at h|-;obtain⟨c,e,h⟩:=h;exact⟨c,A _ _ e,h⟩)| .vec b _ off n cap,ρ,ρ',v,A,h=>by (simp only[Holds]at h|-;obtain⟨c,e,h⟩:=h;exact⟨c,A _ _ e,h⟩)| .mapr b,ρ,ρ',v,A,h=>by (simp only[Holds]at h|-;obtain⟨c,e,h⟩:=h;exact⟨c,A _ _ e,h⟩)| .rmap ks vs,ρ,ρ',v,A,h=>by (simp only[Holds]at h|-;exact h.imp id fun⟨c,es,clock,e,G,hk,I⟩=>⟨c,es,clock,e,D.2 _ _ G,hk,HoldsL.mono D vs bT bT _ (Ren.le_refl _) I⟩)| .kset ks u,ρ,ρ',v,A,h=>by (simp only[Holds]at h|-;exact h.imp id fun⟨c,es,clock,e,G,hk⟩=>⟨c,es,clock,e,D.2 _ _ G,hk⟩)| .clo fn E,ρ,ρ',v,A,h=>by (simp only[Holds]at h|-;obtain⟨cs,e,h⟩:=h;exact⟨cs,e,HoldsL.mono D E ρ ρ' _ A h⟩)| .ifc t x,ρ,ρ',v,A,h=>by simp only[Holds]at h|-;obtain⟨u,e,h⟩:=h;exact⟨u,e,Holds.mono D x ρ ρ' _ A h⟩
theorem HoldsL.mono {fz fz':Fz} (o:fz.le fz'):∀ (l:List AV) (ρ ρ':Ren) (vs:List Value),Ren.le ρ ρ'->HoldsL fz l ρ vs->HoldsL fz' l ρ' vs
 |[],_,_,_,_,h=>by assumption
 |x::xs,ρ,ρ',vs,A,h=>by simp only[HoldsL]at h|-;obtain⟨v,r,e,h1,D⟩:=h;exact⟨v,r,e,Holds.mono o x ρ ρ' v A h1,HoldsL.mono o xs ρ ρ' r A D⟩
theorem HoldsC.mono {fz fz':Fz} (A:fz.le fz'):∀ (l:List AV) (b o:Nat),HoldsC fz l b o->HoldsC fz' l b o
 |[],_,_,_=>by assumption
 |x::xs,b,o,h=>by simp only[HoldsC]at h|-;obtain⟨⟨u,e,o1,h1⟩,D⟩:=h;exact⟨⟨u,A.1 _ _ _ e,o1,Holds.mono A x bT bT u (Ren.le_refl _) h1⟩,HoldsC.mono A xs b (o+1) D⟩
theorem HoldsR.mono {fz fz':Fz} (A:fz.le fz'):∀ (l:List (List AV)) (w b o:Nat),HoldsR fz l w b o->HoldsR fz' l w b o
 |[],_,_,_,_=>by assumption
 |x::xs,w,b,o,h=>by simp only[HoldsR]at h|-;obtain⟨e,h1,D⟩:=h;exact⟨e,HoldsC.mono A x b o h1,HoldsR.mono A xs w b (o+w) D⟩
end
def dem:AV->AV
 | .own _ w rows=>.rd w rows
 |x=>x
theorem Holds.dem {fz:Fz} {x:AV} {ρ:Ren} {v:Value} (h:Holds fz x ρ v):Holds fz (dem x) ρ v:=by cases x<;>assumption
def aG:AV->Bool
 | .own ..=>true
 |_=>false
theorem cV (x:AV):aG (dem x)=false:=by cases x<;>rfl
theorem HoldsL.len {fz:Fz}:∀ (l:List AV) (ρ:Ren) (vs:List Value),HoldsL fz l ρ vs->vs.length=l.length
 |[],_,_,h=>by simp_all [HoldsL]
 |x::xs,ρ,vs,h=>by simp only[HoldsL]at h;obtain⟨v,r,rfl,_,h⟩:=h;simp[HoldsL.len xs ρ r h]
theorem HoldsL.get {fz:Fz}:∀ (l:List AV) (ρ:Ren) (vs:List Value),HoldsL fz l ρ vs-> ∀ (i:Nat) (x:AV),l[i]? =some x-> ∃v,vs[i]? =some v/\Holds fz x ρ v
 |[],_,_,_,i,x,e=>by grind
 |y::o,ρ,vs,h,i,x,e=>by simp only[HoldsL]at h;obtain⟨v,r,rfl,h1,A⟩:=h;cases i with|zero=>simp at e;subst e;exact⟨v,by simp,h1⟩|succ i=>simp at e;obtain⟨u,hu,D⟩:=HoldsL.get o ρ r A i x e;exact⟨u,by simpa using hu,D⟩
theorem HoldsL.of_get {fz:Fz}:∀ (l:List AV) (ρ:Ren) (vs:List Value),vs.length=l.length->(∀ (i:Nat) (x:AV) (v:Value),l[i]? =some x->vs[i]? =some v->Holds fz x ρ v)->HoldsL fz l ρ vs
 |[],_,vs,e,_=>by simp_all [HoldsL,List.eq_nil_of_length_eq_zero]
 |y::o,ρ,[],e,_=>by grind
 |y::o,ρ,v::vs,e,h=>by simp only[HoldsL];exact⟨v,vs,rfl,h 0 y v (by simp) (by simp),HoldsL.of_get o ρ vs (by simpa using e) fun i x u A hu=>h (i+1) x u (by simpa using A) (by simpa using hu)⟩
theorem HoldsL.set {fz:Fz} {l:List AV} {ρ:Ren} {vs:List Value} (h:HoldsL fz l ρ vs) (i:Nat) {x:AV} {v:Value} (E:Holds fz x ρ v): HoldsL fz (l.set i x) ρ (vs.set i v):=by have G:=h.len;refine HoldsL.of_get _ _ _ (by grind) fun j y u o hu=>?_;rw[List.getElem?_set]at o hu;by_cases A:i=j;{simp_all};{simp only[A,if_false]at o hu;obtain⟨I,D,J⟩:=h.get _ _ _ j y o;simp_all}
theorem HoldsL.append {fz:Fz} {l o:List AV} {ρ:Ren} {vs vs':List Value} (h:HoldsL fz l ρ vs) (A:HoldsL fz o ρ vs'):HoldsL fz (l++o) ρ (vs++vs'):=by induction l generalizing vs with|nil=>simp_all [HoldsL]|cons x xs D=>grind [HoldsL]
theorem HoldsL.take {fz:Fz} {l:List AV} {ρ:Ren} {vs:List Value} (h:HoldsL fz l ρ vs) (n:Nat):HoldsL fz (l.take n) ρ (vs.take n):=by induction l generalizing vs n with|nil=>simp_all [HoldsL]|cons x xs o=>simp only[HoldsL]at h;obtain⟨v,r,rfl,h1,A⟩:=h;cases n with|zero=>rfl|succ n=>grind [HoldsL]
theorem HoldsL.drop {fz:Fz} {l:List AV} {ρ:Ren} {vs:List Value} (h:HoldsL fz l ρ vs) (n:Nat):HoldsL fz (l.drop n) ρ (vs.drop n):=by induction l generalizing vs n with|nil=>simp_all [HoldsL]|cons x xs o=>simp only[HoldsL]at h;obtain⟨v,r,rfl,h1,A⟩:=h;cases n with|zero=>grind [HoldsL]|succ n=>simp[*]
theorem HoldsL.dem {fz:Fz} {l:List AV} {ρ:Ren} {vs:List Value} (h:HoldsL fz l ρ vs):HoldsL fz (l.map Aw.dem) ρ vs:=by induction l generalizing vs with|nil=>assumption|cons x xs o=>simp only[HoldsL]at h;obtain⟨v,r,rfl,h1,A⟩:=h;simp only[List.map_cons,HoldsL];exact⟨v,r,rfl,h1.dem,o A⟩
theorem HoldsL.vals {fz:Fz} {ρ:Ren} (vs:List Value):HoldsL fz (vs.map AV.val) ρ vs:=by induction vs with|nil=>rfl|cons v vs o=>grind [HoldsL,Holds]
theorem HoldsC.get {fz:Fz}:∀ (l:List AV) (b o:Nat),HoldsC fz l b o-> ∀ (i:Nat) (x:AV),l[i]? =some x-> ∃u,fz.cell b (o+i)=some u/\u.oneCell'=true/\Holds fz x bT u
 |[],_,_,_,i,x,e=>by grind
 |y::A,b,o,h,i,x,e=>by simp only[HoldsC]at h;cases i with|zero=>simp at e;subst e;exact h.1|succ i=>simp at e;obtain⟨u,hu,D⟩:=HoldsC.get A b (o+1) h.2 i x e;exact⟨u,by rw[show o+(i+1)=o+1+i from by omega];exact hu,D⟩
theorem HoldsR.get {fz:Fz}:∀ (rows:List (List AV)) (w b o:Nat),HoldsR fz rows w b o-> ∀ (i:Nat) (r:List AV),rows[i]? =some r->r.length=w/\HoldsC fz r b (o+i*w)
 |[],_,_,_,_,i,x,e=>by grind
 |y::A,w,b,o,h,i,r,e=>by simp only[HoldsR]at h;cases i with|zero=>simp at e;subst e;simpa using⟨h.1,h.2.1⟩|succ i=>simp at e;obtain⟨D,E⟩:=HoldsR.get A w b (o+w) h.2.2 i r e;exact⟨D,by rw[show o+(i+1)*w=o+w+i*w from by rw[Nat.add_mul];omega];exact E⟩
theorem HoldsR.append {fz:Fz}:∀ (rows A:List (List AV)) (w b o:Nat),HoldsR fz rows w b o->HoldsR fz A w b (o+rows.length*w)->HoldsR fz (rows++A) w b o
 |[],A,w,b,o,_,E=>by simp_all
 |y::D,A,w,b,o,h,E=>by simp only[HoldsR]at h;simp only[List.cons_append,HoldsR];refine⟨h.1,h.2.1,HoldsR.append D A w b (o+w) h.2.2 ?_⟩;rw[show o+w+D.length*w=o+(y::D).length*w from by simp[Nat.add_mul];omega];exact E
theorem HoldsR.take {fz:Fz}:∀ (rows:List (List AV)) (n w b o:Nat),HoldsR fz rows w b o->HoldsR fz (rows.take n) w b o
 |[],n,w,b,o,_=>by simp[*]
 |y::A,0,w,b,o,h=>by simp[HoldsR]
 |y::A,n+1,w,b,o,h=>by simp_all [HoldsR,List.take_succ_cons,HoldsR.take]
theorem HoldsR.drop {fz:Fz}:∀ (rows:List (List AV)) (n w b o:Nat),HoldsR fz rows w b o->HoldsR fz (rows.drop n) w b (o+n*w)
 |[],n,w,b,o,_=>by simp[HoldsR]
 |y::A,0,w,b,o,h=>by simp[*]
 |y::A,n+1,w,b,o,h=>by simp only[HoldsR]at h;simp only[List.drop_succ_cons];have:=HoldsR.drop A n w b (o+w) h.2.2;rw[show o+(n+1)*w=o+w+n*w from by rw[Nat.add_mul];omega];exact this
theorem HoldsR.width {fz:Fz}:∀ (rows:List (List AV)) (w b o:Nat),HoldsR fz rows w b o-> ∀r∈rows,r.length=w:=by intro rows w b o h r A;obtain⟨i,hi⟩:=List.mem_iff_getElem?.1 A;exact(h.get _ _ _ _ i r hi).1
theorem HoldsC.of_get {fz:Fz}:∀ (l:List AV) (b o:Nat),(∀ (i:Nat) (x:AV),l[i]? =some x-> ∃u,fz.cell b (o+i)=some u/\u.oneCell'=true/\Holds fz x bT u)->HoldsC fz l b o
 |[],_,_,_=>by simp[HoldsC]
 |y::A,b,o,h=>by simp only[HoldsC];refine⟨h 0 y (by simp),HoldsC.of_get A b (o+1) fun i x e=>?_⟩;have:=h (i+1) x (by simpa using e);rwa [show o+(i+1)=o+1+i from by omega]at this
theorem HoldsR.of_get {fz:Fz}:∀ (rows:List (List AV)) (w b o:Nat),(∀ (i:Nat) (r:List AV),rows[i]? =some r->r.length=w/\HoldsC fz r b (o+i*w))->HoldsR fz rows w b o
 |[],_,_,_,_=>by simp[HoldsR]
 |y::D,w,b,o,h=>by simp only[HoldsR];have A:=h 0 y (by simp);refine⟨A.1,by simpa using A.2,HoldsR.of_get D w b (o+w) fun i r e=>?_⟩;have:=h (i+1) r (by simpa using e);rwa [show o+(i+1)*w=o+w+i*w from by rw[Nat.add_mul];omega]at this
mutual
def flat:AV->Bool
 | .unk=>true
 | .val _=>true
 | .agg l=>aNU l
 | .tup l=>aNU l
 | .ifc _ x=>flat x
 |_=>false
def aNU:List AV->Bool
 |[]=>true
 |x::xs=>flat x&&aNU xs
end
mutual
theorem Holds.flat {fz fz':Fz}:∀ (x:AV) (ρ ρ':Ren) (v:Value),flat x=true->Holds fz x ρ v->Holds fz' x ρ' v
 | .unk,_,_,_,_,_=>by assumption
 | .val u,_,_,_,_,h=>by assumption
 | .agg l,ρ,ρ',v,o,h=>by (simp only[Holds]at h|-;simp only[Aw.flat]at o;obtain⟨cs,e,h⟩:=h;exact⟨cs,e,HoldsL.flat l ρ ρ' _ o h⟩)| .tup l,ρ,ρ',v,o,h=>by (simp only[Holds]at h|-;simp only[Aw.flat]at o;obtain⟨cs,e,h⟩:=h;exact⟨cs,e,HoldsL.flat l ρ ρ' _ o h⟩)| .ifc t x,ρ,ρ',v,o,h=>by simp only[Holds]at h|-;simp only[Aw.flat]at o;obtain⟨u,e,h⟩:=h;exact⟨u,e,Holds.flat x ρ ρ' _ o h⟩
 | .rd ..,_,_,_,o,_| .fx ..,_,_,_,o,_| .own ..,_,_,_,o,_| .elt ..,_,_,_,o,_| .ptr ..,_,_,_,o,_| .vec ..,_,_,_,o,_
 | .mapr ..,_,_,_,o,_| .rmap ..,_,_,_,o,_| .kset ..,_,_,_,o,_| .clo ..,_,_,_,o,_=>by grind [Aw.flat]
theorem HoldsL.flat {fz fz':Fz}:∀ (l:List AV) (ρ ρ':Ren) (vs:List Value),aNU l=true->HoldsL fz l ρ vs->HoldsL fz' l ρ' vs
 |[],_,_,_,_,h=>by assumption
 |x::xs,ρ,ρ',vs,o,h=>by simp only[HoldsL]at h|-;simp only[aNU,Bool.and_eq_true]at o;obtain⟨v,r,e,h1,A⟩:=h;exact⟨v,r,e,Holds.flat x ρ ρ' v o.1 h1,HoldsL.flat xs ρ ρ' r o.2 A⟩
end
end Go.Aw
end
section
namespace Go.Aw
inductive Blk where
 |cells (e:TypeId) (cs:List AV)
 |map (ks:List Value) (vs:List AV)
 |mapd (ks:List Value) (vs:List AV)
 |hid (l:Nat) (o:Obj)
 deriving Inhabited
def lk {α:Type}:List (Nat×α)->Nat->Option α
 |[],_=>none
 |(j,x)::l,k=>if j=k then some x else lk l k
structure View where
 tm:Nat->AV
 hp:Nat->Option Blk
inductive Pl where
 |t (i:Nat)
 |c (b j:Nat)
 deriving DecidableEq
def Blk.at:Blk->Nat->AV
 | .cells _ cs,j=>cs.getD j .unk
 | .map _ vs,j=>vs.getD j .unk
 | .mapd _ vs,j=>vs.getD j .unk
 | .hid _ _,_=>.unk
def View.at (V:View):Pl->AV
 | .t i=>V.tm i
 | .c b j=>((V.hp b).map (·.at j)).getD .unk
def cQ (w:World) (c j:Nat):Value:=
 match w.heap[c]? with
  |some (.cells cs _ _)=>cs.getD j undef
  |some (.map es _)=>((es[j]?).map (·.val)).getD undef
  |_=>undef
def bM (a:Act) (w:World) (ρ:Ren):Pl->Value
 | .t i=>a.tmps.getD i undef
 | .c b j=>match ρ b with|some c=>cQ w c j|none=>undef
def BlkAt (fz:Fz) (ρ:Ren) (w:World) (c:Nat):Blk->Prop
 | .cells e cs=>∃cur,w.heap[c]? =some (.cells cur e (0,0))/\HoldsL fz cs ρ cur.toList/\ ∀u∈cur.toList,u.oneCell'=true
 | .map ks vs=>∃es clock,w.heap[c]? =some (.map es clock)/\es.toList.map (·.key)=ks/\HoldsL fz vs ρ (es.toList.map (·.val))/\
  clock=es.size/\ ∀ (j:Nat) (x:MapEntry),es[j]? =some x->x.born=j
 | .mapd ks vs=>∃es clock,w.heap[c]? =some (.map es clock)/\es.toList.map (·.key)=ks/\HoldsL fz vs ρ (es.toList.map (·.val))/\
  es.toList.Pairwise (fun x y=>x.born<y.born)/\ ∀x∈es.toList,x.born<clock
 | .hid l o=>c=l/\w.heap[c]? =some o
structure Ctx where
 B:Nat
 N:Nat
 w0:World
 Mu:Nat->Bool
 fz0:Fz
 ρ0:Ren:=bT
 rd:Option Nat:=none
 df:List Deferred:=[]
def bZH (cur:Array Value) (cap wd:Nat):Prop:=cur.size=cap*wd/\ ∀u∈cur.toList,u.oneCell'=true
def bKI (C:Ctx) (fz:Fz) (ρ:Ren) (w:World) (e:TypeId) (wd:Nat) (rows:List (List AV)) (v:Value):Prop:=
 (v=.slice none 0 0/\rows=[])\/ ∃g cap cur,v=.slice (some ⟨g,0,none⟩) rows.length cap/\(C.B<=g\/C.Mu g=true)/\w.heap[g]? =some (.cells cur e (0,0))/\
  rows.length<=cap/\cap<=maxLen/\bZH cur cap wd/\(∀o,rows.length*wd<=o->fz.cell g o=none)/\fz.obj g=none/\(∀b,ρ b≠some g)
class GL where
 need:List (Nat×(Obj->Prop))
 base:Fz:=⟨fun _ _=>none,fun _=>none⟩
 bren:Ren:=bT
 brn:∀b c,bren b=some c->1000<=b/\b<1990:=by intro b c h;cases h
 dr:Prop:=False
structure OutsD (d:Prop) (w w':World):Prop where
 out:w'.output=w.output
 dr:d->w.drawn<=w'.drawn
abbrev bZB [GL] (w w':World):Prop:=OutsD GL.dr w w'
theorem OutsD.refl {d:Prop} (w:World):OutsD d w w:=⟨rfl,fun _=>Nat.le_refl _⟩
theorem OutsD.trans {d:Prop} {x y z:World} (k:OutsD d y z) (h:OutsD d x y):OutsD d x z:=⟨k.out.trans h.out,fun d=>Nat.le_trans (h.dr d) (k.dr d)⟩
class NB [GL]:Prop where
 nb:GL.bren=bT
def GLok [GL] (fz:Fz):Prop:=(∀x∈GL.need,∃o,fz.obj x.1=some o/\x.2 o)/\GL.base.le fz
theorem GLok.mono [GL] {f g:Fz} (h:GLok f) (A:f.le g):GLok g:=⟨fun x hp=>by obtain⟨o,h1,D⟩:=h.1 x hp;exact⟨o,A.2 _ _ h1,D⟩,Fz.le_trans h.2 A⟩
variable [GL]
structure SimE (C:Ctx) (V:View) (a:Act) (w:World) (fz:Fz) (ρ:Ren):Prop where
 df:a.defers=C.df
 sz:a.tmps.size=C.N
 tm:∀t,Holds fz (V.tm t) ρ (a.tmps.getD t undef)
 hp:∀b k,V.hp b=some k-> ∃c,ρ b=some c/\(C.B<=c\/C.Mu c=true)/\BlkAt fz ρ w c k/\(∀o,fz.cell c o=none)/\fz.obj c=none
 dom:∀b,V.hp b=none->ρ b=none
 inj:∀b b' c,ρ b=some c->ρ b'=some c->b=b'
 fcell:∀c o v,fz.cell c o=some v->w.cell? ⟨c,o,none⟩=some v
 fobj:∀c o,fz.obj c=some o->w.heap[c]? =some o
 f0:C.fz0.le fz
 gl:GLok C.fz0
 f1:∀c,c<C.B->C.Mu c=false->(∀o v,fz.cell c o=some v->C.fz0.cell c o=some v)/\ ∀o,fz.obj c=some o->C.fz0.obj c=some o
 tips:∀p e wd rows,V.at p=.own e wd rows->bKI C fz ρ w e wd rows (bM a w ρ p)
 tipinj:∀p q,aG (V.at p)=true->aG (V.at q)=true-> ∀g g' n n' c c',bM a w ρ p=.slice (some g) n c->bM a w ρ q=.slice (some g') n' c'->g.block=g'.block->p=q
 os:w.os=C.w0.os
 tape:w.tape=C.w0.tape
 output:bZB C.w0 w
 bsz:C.B<=w.heap.size
 old:∀c,c<C.B->C.Mu c=false->w.heap[c]? =C.w0.heap[c]?
 mub:∀c,C.Mu c=true->c<C.B
 keep:∀b c c',C.ρ0 b=some c->ρ b=some c'->c'=c
 hi:∀b,b<C.N\/b<1000\/2000<=b->C.ρ0 b=none
 muρ:∀b c,C.ρ0 b=some c->C.Mu c=true
 br:∀b c c',GL.bren b=some c->ρ b=some c'->c'=c
 nn:C.N<=1000
def Sim (C:Ctx) (V:View) (a:Act) (w:World):Prop:=∃fz ρ,SimE C V a w fz ρ
def View.put (V:View) (d:Nat) (x:AV):View:={V with tm:=fun t=>if t=d then x else V.tm t}
def View.putO (V:View) (d:Option Nat) (x:AV):View:=match d with|some d=>V.put d x|none=>V
def View.setB (V:View) (b:Nat) (k:Blk):View:={V with hp:=fun c=>if c=b then some k else V.hp c}
def View.demT (V:View) (t:Nat):View:={V with tm:=fun u=>if u=t then dem (V.tm u)else V.tm u}
def Blk.set:Blk->Nat->AV->Blk
 | .cells e cs,j,x=>.cells e (cs.set j x)
 | .map ks vs,j,x=>.map ks (vs.set j x)
 | .mapd ks vs,j,x=>.mapd ks (vs.set j x)
 | .hid l o,_,_=>.hid l o
def View.setAt (V:View):Pl->AV->View
 | .t i,x=>V.put i x
 | .c b j,x=>match V.hp b with|some k=>V.setB b (k.set j x)|none=>V
variable {C:Ctx} {V:View} {a:Act} {w:World} {fz:Fz} {ρ:Ren}
theorem nE (a:Act) (d t:Nat) (v:Value) (h:d<a.tmps.size):(a.put (some d) v).tmps.getD t undef=if t=d then v else a.tmps.getD t undef:=by simp only[Act.put,Array.getD_eq_getD_getElem?,Array.getElem?_setIfInBounds];grind
theorem tV (d t:Nat) (v:Value) (h:d<a.tmps.size):bM (a.put (some d) v) w ρ (.t t)=if t=d then v else bM a w ρ (.t t):=nE a d t v h
theorem SimE.put (h:SimE C V a w fz ρ) {d:Nat} (D:d<C.N) {x:AV} {v:Value} (E:Holds fz x ρ v) (G:aG x=false):SimE C (V.put d x) (a.put (some d) v) w fz ρ:=by
 have o:d<a.tmps.size:=by rw[h.sz];exact D
 have key:∀p,aG ((V.put d x).at p)=true->p≠ .t d/\(V.put d x).at p=V.at p/\bM (a.put (some d) v) w ρ p=bM a w ρ p:=by intro p hp;cases p with|t i=>by_cases e:i=d;{subst e;simp[View.at,View.put,G]at hp};simp_all [View.at,View.put,tV,if_neg]|c b j=>exact⟨fun h=>(by cases h),rfl,rfl⟩
 refine{h with sz:=by simp[Act.put,h.sz],tm:=fun t=>?_,tips:=fun p e wd rows hp=>?_,tipinj:=fun p q hp I g J n K c L M O S=>?_};{rw[nE a d t v o];simp only[View.put];split;{exact E};{exact h.tm t}};{obtain⟨_,h1,A⟩:=key p (by rw[hp];rfl);rw[A];exact h.tips p e wd rows (by simp_all)};{obtain⟨_,h1,A⟩:=key p hp;obtain⟨_,U,W⟩:=key q I;exact h.tipinj p q (by simp_all) (by simp_all) g J n K c L (by simp_all) (by simp_all) S}
theorem SimE.putO (h:SimE C V a w fz ρ) {d:Option Nat} (o:∀i,d=some i->i<C.N) {x:AV} {v:Value} (A:Holds fz x ρ v) (D:aG x=false):SimE C (V.putO d x) (a.put d v) w fz ρ:=by cases d with|none=>exact h|some d=>exact h.put (o d rfl) A D
def Blk.len:Blk->Nat
 | .cells _ cs=>cs.length
 | .map _ vs=>vs.length
 | .mapd _ vs=>vs.length
 | .hid _ _=>0
def View.hasPl (V:View):Pl->Prop
 | .t _=>True
 | .c b j=>∃k,V.hp b=some k/\j<k.len
theorem Blk.at_set (k:Blk) (j i:Nat) (x:AV) (h:j<k.len):(k.set j x).at i=if i=j then x else k.at i:=by cases k with|hid l o=>grind [Blk.len]|cells e cs=>grind [Blk.len,Blk.set,Blk.at]|map ks vs=>grind [Blk.len,Blk.set,Blk.at]|mapd ks vs=>grind [Blk.len,Blk.set,Blk.at]
theorem View.at_setAt (V:View) (p q:Pl) (x:AV) (hp:V.hasPl p):(V.setAt p x).at q=if q=p then x else V.at q:=by cases p with|t i=>(cases q with|t j=>simp[View.setAt,View.at,View.put,Pl.t.injEq]|c b j=>rfl)|c b j=>obtain⟨k,hk,o⟩:=hp;cases q with|t i=>simp[View.setAt,hk,View.at,View.setB]|c A D=>grind [View.setAt,View.at,View.setB,Pl.c.injEq,Blk.at_set]
theorem View.hasPl_of_own {V:View} {p:Pl} (h:aG (V.at p)=true):V.hasPl p:=by cases p with|t i=>trivial|c b j=>simp only[View.at]at h;cases hk:V.hp b with|none=>simp_all [aG]|some k=>refine⟨k,hk,?_⟩;rw[hk]at h;cases k with|cells e cs=>grind [Blk.len,Nat.lt_of_not_le,Blk.at,List.getElem?_eq_none,aG]|map ks vs=>grind [Blk.len,Nat.lt_of_not_le,Blk.at,List.getElem?_eq_none,aG]|hid l o=>grind [Blk.at,aG]|mapd ks vs=>grind [Blk.len,Nat.lt_of_not_le,Blk.at,List.getElem?_eq_none,aG]
end Go.Aw
end
section
namespace Go.Aw
variable [GL]
variable {C:Ctx} {V:View} {a:Act} {w:World} {fz:Fz} {ρ:Ren}
structure Ext (w w':World):Prop where
 os:w'.os=w.os
 tape:w'.tape=w.tape
 output:bZB w w'
 size:w.heap.size<=w'.heap.size
 block:∀k,k<w.heap.size->w'.heap[k]? =w.heap[k]?
theorem Ext.refl (w:World):Ext w w:=⟨rfl,rfl,.refl _,Nat.le_refl _,fun _ _=>rfl⟩
theorem Ext.trans {x y z:World} (h:Ext x y) (k:Ext y z):Ext x z:=
 ⟨k.os.trans h.os,k.tape.trans h.tape,k.output.trans h.output,Nat.le_trans h.size k.size,fun i hi=>(k.block i (Nat.lt_of_lt_of_le hi h.size)).trans (h.block i hi)⟩
theorem Ext.alloc (w:World) (o:Obj):Ext w (w.alloc o):=⟨rfl,rfl,⟨rfl,fun _=>Nat.le_refl _⟩,by simp,fun k hk=>heap_alloc_old w o k hk⟩
theorem Ext.drawn (w:World) (n:Nat) (o:w.drawn<=n:=by simp):Ext w {w with drawn:=n}:=⟨rfl,rfl,⟨rfl,fun _=>o⟩,Nat.le_refl _,fun _ _=>rfl⟩
theorem cE {w:World} {c:Nat} {o:Obj} (h:w.heap[c]? =some o):c<w.heap.size:=(Array.getElem?_eq_some_iff.1 h).1
theorem Ext.heap {w w':World} (h:Ext w w') {c:Nat} {o:Obj} (e:w.heap[c]? =some o):w'.heap[c]? =some o:=by rw[h.block c (cE e)];exact e
theorem Ext.cell {w w':World} (h:Ext w w') {b o:Nat} {v:Value} (e:w.cell? ⟨b,o,none⟩=some v):w'.cell? ⟨b,o,none⟩=some v:=by have A:b<w.heap.size:=World.block_lt_of_cell? w _ e;rw[World.cell?_of_block (w:=w) (h.block b A)];exact e
theorem BlkAt.mono {fz fz':Fz} {ρ ρ':Ren} {w w':World} {c:Nat} {k:Blk} (E:fz.le fz') (G:Ren.le ρ ρ') (hw:∀o,w.heap[c]? =some o->w'.heap[c]? =some o) (h:BlkAt fz ρ w c k):BlkAt fz' ρ' w' c k:=by cases k with|cells e cs=>obtain⟨cur,h1,A,D⟩:=h;exact⟨cur,hw _ h1,A.mono E _ _ _ _ G,D⟩|map ks vs=>obtain⟨es,clock,h1,A,D,I⟩:=h;exact⟨es,clock,hw _ h1,A,D.mono E _ _ _ _ G,I⟩|mapd ks vs=>obtain⟨es,clock,h1,A,D,I⟩:=h;exact⟨es,clock,hw _ h1,A,D.mono E _ _ _ _ G,I⟩|hid l o=>exact⟨h.1,hw _ h.2⟩
theorem aBO {w w':World} {c:Nat} (h:w'.heap[c]? =w.heap[c]?) (j:Nat):cQ w' c j=cQ w c j:=by simp only[cQ,h]
theorem SimE.lt (h:SimE C V a w fz ρ) {b:Nat} {c:Nat} (D:ρ b=some c):c<w.heap.size:=by cases hk:V.hp b with|none=>rw[h.dom b hk]at D;cases D|some k=>obtain⟨G,E,_,A,_⟩:=h.hp b k hk;rw[D]at E;cases E;cases k with|cells e cs=>obtain⟨cur,h1,_⟩:=A;grind|map ks vs=>obtain⟨es,clock,h1,_⟩:=A;grind|mapd ks vs=>obtain⟨es,clock,h1,_⟩:=A;grind|hid l o=>exact cE A.2
theorem SimE.conc_same (h:SimE C V a w fz ρ) {w':World} {ρ':Ren} {p:Pl} (hp:aG (V.at p)=true) (A:Ren.le ρ ρ') (hw:∀b j c,p=.c b j->ρ b=some c->w'.heap[c]? =w.heap[c]?): bM a w' ρ' p=bM a w ρ p:=by
 cases p with
 |t i=>rfl
 |c b j=>
  simp only[View.at]at hp
  cases hk:V.hp b with
   |none=>simp_all [aG]
   |some k=>
    obtain⟨c,o,_⟩:=h.hp b k hk
    simp only[bM,o,A _ _ o]
    grind [aBO]
theorem SimE.extend (h:SimE C V a w fz ρ) {w':World} (hw:Ext w w') {fz':Fz} (hle:fz.le fz') (E:∀c o v,fz'.cell c o=some v->w'.cell? ⟨c,o,none⟩=some v) (G:∀c o,fz'.obj c=some o->w'.heap[c]? =some o) (hold:∀c,c<w.heap.size->(∀o,fz'.cell c o=fz.cell c o)/\fz'.obj c=fz.obj c):SimE C V a w' fz' ρ:=by
 have D:=fun{b c}=>SimE.lt h (b:=b) (c:=c);refine{h with
  tm:=fun t=>(h.tm t).mono hle _ _ _ _ (Ren.le_refl _),hp:=fun b k hk=>?_,fcell:=E,fobj:=G,f0:=Fz.le_trans h.f0 hle,
  f1:=fun c A I=>?_,tips:=fun p e wd rows hp=>?_,tipinj:=fun p q hp U g W n Y c Z J K hg=>?_,
  os:=hw.os.trans h.os,tape:=hw.tape.trans h.tape,output:=hw.output.trans h.output,bsz:=Nat.le_trans h.bsz hw.size,old:=fun c A hm=>?_}
 {obtain⟨c,A,h1,L,O,S⟩:=h.hp b k hk;have:=hold c (D A);exact⟨c,A,h1,L.mono hle (Ren.le_refl _) (fun o M=>hw.heap M),fun o=>(this.1 o).trans (O o),this.2.trans S⟩};{have:=hold c (Nat.lt_of_lt_of_le A h.bsz);exact⟨fun o v e=>(h.f1 c A I).1 o v (by simp_all),fun o e=>(h.f1 c A I).2 o (by simp_all)⟩};{have M:aG (V.at p)=true:=(by rw[hp];rfl);rw[h.conc_same (w':=w') M (Ren.le_refl _) (fun b j c _ A=>hw.block c (D A))];rcases h.tips p e wd rows hp with⟨h1,L⟩|⟨g,cap,cur,h1,L,O,S,h5,h6,h7,h8,h9⟩;{exact .inl ⟨h1,L⟩};{have:=hold g (cE O);exact .inr ⟨g,cap,cur,h1,L,hw.heap O,S,h5,h6,fun o M=>(this.1 o).trans (h7 o M),this.2.trans h8,h9⟩}};{rw[h.conc_same (w':=w') hp (Ren.le_refl _) (fun b j c _ A=>hw.block c (D A))]at J;rw[h.conc_same (w':=w') U (Ren.le_refl _) (fun b j c _ A=>hw.block c (D A))]at K;exact h.tipinj p q hp U g W n Y c Z J K hg};{rw[hw.block c (Nat.lt_of_lt_of_le A h.bsz)];exact h.old c A hm}
theorem SimE.ext (h:SimE C V a w fz ρ) {w':World} (hw:Ext w w'):SimE C V a w' fz ρ:=
 h.extend hw (Fz.le_refl _) (fun c o v e=>hw.cell (h.fcell c o v e)) (fun c o e=>hw.heap (h.fobj c o e)) (fun _ _=>⟨fun _=>rfl,rfl⟩)
theorem SimE.fz_new (h:SimE C V a w fz ρ) {c:Nat} (A:w.heap.size<=c):(∀o,fz.cell c o=none)/\fz.obj c=none:=by constructor;{intro o;cases e:fz.cell c o with|none=>rfl|some v=>exact absurd (World.block_lt_of_cell? w _ (h.fcell c o v e)) (by simp;omega)};{cases e:fz.obj c with|none=>rfl|some v=>exact absurd (cE (h.fobj c v e)) (by omega)}
def Ren.set (ρ:Ren) (b c:Nat):Ren:=fun x=>if x=b then some c else ρ x
theorem Ren.le_set {ρ:Ren} {b c:Nat} (h:ρ b=none):Ren.le ρ (Ren.set ρ b c):=by intro x y e;grind [Ren.set]
theorem SimE.brd (h:SimE C V a w fz ρ) {d:Nat} (o:d<C.N):GL.bren d=none:=by cases e:GL.bren d with|none=>rfl|some c=>have:=GL.brn d c e;have:=h.nn;omega
theorem SimE.newBlk (h:SimE C V a w fz ρ) {d:Nat} (hN:C.ρ0 d=none) (hG:GL.bren d=none) (hd:V.hp d=none) {w':World} (hw:Ext w w') {k:Blk} (hk:BlkAt fz ρ w' w.heap.size k) (S:∀j,aG (k.at j)=false): SimE C (V.setB d k) a w' fz (Ren.set ρ d w.heap.size):=by
 have I:=h.ext hw;have hr:ρ d=none:=h.dom d hd;have hle:=Ren.le_set (c:=w.heap.size) hr;have J:=fun{b c}=>SimE.lt h (b:=b) (c:=c);have D:=h.fz_new (Nat.le_refl _);have key:∀p,aG ((V.setB d k).at p)=true->(V.setB d k).at p=V.at p/\bM a w' (Ren.set ρ d w.heap.size) p=bM a w' ρ p:=by intro p hp;cases p with|t i=>exact⟨rfl,rfl⟩|c b j=>grind [View.at,View.setB,bM,Ren.set]
 refine{I with
  tm:=fun t=>(I.tm t).mono (Fz.le_refl _) _ _ _ _ hle,hp:=fun b k' A=>?_,dom:=fun b E=>?_,inj:=fun b U c E G=>?_,keep:=fun b c K h1 o=>?_,br:=fun b c K h1 o=>?_,
  tips:=fun p e wd rows hp=>?_,tipinj:=fun p q hp hq g W n n' c K ag ah hg=>?_}
 {simp only[View.setB]at A;by_cases e:b=d;{subst e;simp only[if_true]at A;cases A;exact⟨w.heap.size,by simp[Ren.set],.inl h.bsz,hk.mono (Fz.le_refl _) hle (fun _ h=>h),D.1,D.2⟩};{simp only[e,if_false]at A;obtain⟨c,L,h1,o,Y⟩:=I.hp b k' A;exact⟨c,by simp[Ren.set,e,L],h1,o.mono (Fz.le_refl _) hle (fun _ h=>h),Y⟩}};{simp only[View.setB]at E;by_cases e:b=d;{simp_all};{simp only[e,if_false]at E;simp[Ren.set,e,h.dom b E]}};{simp only[Ren.set]at E G;by_cases e:b=d<;>by_cases e':U=d;{omega};{grind};{grind};{simp only[e,e',if_false]at E G;exact h.inj b U c E G}};{obtain⟨h1,o⟩:=key p (by rw[hp];rfl);rw[o];rcases I.tips p e wd rows (by simp_all)with⟨x1,M⟩|⟨g,cap,cur,x1,M,x3,x4,x5,x6,x7,x8,x9⟩;{exact .inl ⟨x1,M⟩};{refine .inr ⟨g,cap,cur,x1,M,x3,x4,x5,x6,x7,x8,fun b=>?_⟩;simp only[Ren.set];split;{intro hh;cases hh;rcases h.tips p e wd rows (by rw[<-h1];exact hp)with⟨O,y2⟩|⟨W,Z,aa,O,y2,y3,_⟩;{rw[h.conc_same (w':=w') (ρ':=ρ) (by rw[<-h1,hp];rfl) (Ren.le_refl _) (fun b j c _ L=>hw.block c (J L)),O]at x1;cases x1};{rw[h.conc_same (w':=w') (ρ':=ρ) (by rw[<-h1,hp];rfl) (Ren.le_refl _) (fun b j c _ L=>hw.block c (J L)),O]at x1;cases x1;exact absurd (cE y3) (by omega)}};{exact x9 b}}};{obtain⟨h1,o⟩:=key p hp;obtain⟨Y,h4⟩:=key q hq;exact I.tipinj p q (by simp_all) (by simp_all) g W n n' c K (by simp_all) (by simp_all) hg};{simp only[Ren.set]at o;by_cases e:b=d;{simp_all};{simp only[e,if_false]at o;exact h.keep b c K h1 o}};{simp only[Ren.set]at o;by_cases e:b=d;{simp_all};{simp only[e,if_false]at o;exact h.br b c K h1 o}}
theorem SimE.setBlk (h:SimE C V a w fz ρ) {b c:Nat} {k0 k:Blk} (hb:V.hp b=some k0) (hc:ρ b=some c) {w':World} (S:w'.os=w.os) (G:w'.tape=w.tape) (K:bZB w w') (U:w'.heap.size=w.heap.size) (A:∀i,i≠c->w'.heap[i]? =w.heap[i]?) (hk:BlkAt fz ρ w' c k) (Z:∀j,aG (k.at j)=true->k.at j=k0.at j/\cQ w' c j=cQ w c j): SimE C (V.setB b k) a w' fz ρ:=by
 obtain⟨c',L,ad,ae,af,ag⟩:=h.hp b k0 hb;rw[hc]at L;cases L;have key:∀p,aG ((V.setB b k).at p)=true->(V.setB b k).at p=V.at p/\bM a w' ρ p=bM a w ρ p:=by intro p hp;cases p with|t i=>exact⟨rfl,rfl⟩|c D j=>by_cases e:D=b;{subst e;simp only[View.at,View.setB,if_true,Option.map_some,Option.getD_some]at hp|-;grind [bM]};{refine⟨by simp[View.at,View.setB,e],?_⟩;simp only[bM];cases W:ρ D with|none=>rfl|some c2=>exact aBO (A c2 fun M=>e (h.inj D b c2 W (by simp[*]))) j}
 refine{h with
  hp:=fun D k' I=>?_,dom:=fun D J=>?_,fcell:=fun c2 o v e=>?_,fobj:=fun c2 o e=>?_,
  tips:=fun p e wd rows hp=>?_,tipinj:=fun p q hp hq g g' n n' x x' am an hg=>?_,os:=S.trans h.os,tape:=G.trans h.tape,output:=K.trans h.output,
  bsz:=by rw[U];exact h.bsz,old:=fun c2 E hm=>?_}
 {simp only[View.setB]at I;by_cases e:D=b;{simp_all};{simp only[e,if_false]at I;obtain⟨c2,E,h1,O,h3⟩:=h.hp D k' I;refine⟨c2,E,h1,O.mono (Fz.le_refl _) (Ren.le_refl _) (fun o ho=>?_),h3⟩;rw[A c2 fun M=>e (h.inj D b c2 E (by simp[*]))];exact ho}};{simp only[View.setB]at J;by_cases e:D=b;{simp_all};{simp only[e,if_false]at J;exact h.dom D J}};{by_cases M:c2=c;{simp_all};{rw[World.cell?_of_block (w:=w) (A c2 M)];exact h.fcell c2 o v e}};{by_cases M:c2=c;{simp_all};{rw[A c2 M];exact h.fobj c2 o e}};{obtain⟨h1,O⟩:=key p (by rw[hp];rfl);rw[O];rcases h.tips p e wd rows (by simp_all)with⟨x1,Y⟩|⟨g,cap,cur,x1,Y,x3,x4,x5,x6,x7,x8,x9⟩;{exact .inl ⟨x1,Y⟩};{refine .inr ⟨g,cap,cur,x1,Y,?_,x4,x5,x6,x7,x8,x9⟩;grind}};{obtain⟨h1,O⟩:=key p hp;obtain⟨h3,h4⟩:=key q hq;exact h.tipinj p q (by simp_all) (by simp_all) g g' n n' x x' (by simp_all) (by simp_all) hg};{have:c2≠c:=(by grind);rw[A c2 this];exact h.old c2 E hm}
end Go.Aw
end
section
namespace Go.Aw
variable [GL]
variable {C:Ctx} {V:View} {a:Act} {w:World} {fz:Fz} {ρ:Ren}
theorem View.hp_setAt_c {V:View} {b j:Nat} {k:Blk} (hk:V.hp b=some k) (y:AV):(V.setAt (.c b j) y).hp=fun c=>if c=b then some (k.set j y)else V.hp c:=by simp[View.setAt,hk,View.setB]
theorem View.tm_setAt_c {V:View} {b j:Nat} (y:AV):(V.setAt (.c b j) y).tm=V.tm:=by simp only[View.setAt];split<;>rfl
theorem HoldsL.set_same {fz:Fz} {l:List AV} {ρ:Ren} {vs:List Value} (h:HoldsL fz l ρ vs) (i:Nat) (y:AV) (E:∀x v,l[i]? =some x->vs[i]? =some v->Holds fz y ρ v):HoldsL fz (l.set i y) ρ vs:=by have G:=h.len;refine HoldsL.of_get _ _ _ (by grind) fun j z u o hu=>?_;rw[List.getElem?_set]at o;by_cases A:i=j;{simp_all};{simp only[A,if_false]at o;obtain⟨I,D,J⟩:=h.get _ _ _ j z o;simp_all}
theorem SimE.reflag (h:SimE C V a w fz ρ) {p:Pl} (hp:V.hasPl p) {y:AV} (hy:∀v,Holds fz (V.at p) ρ v->Holds fz y ρ v) (ad:∀e wd rows,y=.own e wd rows->bKI C fz ρ w e wd rows (bM a w ρ p)) (Z:aG y=true-> ∀q,q≠p->aG (V.at q)=true-> ∀g E n O c S,bM a w ρ p=.slice (some g) n c->bM a w ρ q=.slice (some E) O S->g.block≠E.block): SimE C (V.setAt p y) a w fz ρ:=by
 have G:=fun q=>View.at_setAt V p q y hp;have tips:∀q e wd rows,(V.setAt p y).at q=.own e wd rows->bKI C fz ρ w e wd rows (bM a w ρ q):=by intro q e wd rows I;rw[G q]at I;by_cases e1:q=p;{simp_all};{rw[if_neg e1]at I;exact h.tips q e wd rows I}
 have tipinj:∀q r,aG ((V.setAt p y).at q)=true->aG ((V.setAt p y).at r)=true-> ∀g E n O c S,bM a w ρ q=.slice (some g) n c->bM a w ρ r=.slice (some E) O S->g.block=E.block->q=r:=by intro q r I hr g E n O c S h1 K h3;rw[G q]at I;rw[G r]at hr;by_cases e1:q=p<;>by_cases e2:r=p;{rw[e1,e2]};{grind};{grind};{rw[if_neg e1]at I;rw[if_neg e2]at hr;exact h.tipinj q r I hr g E n O c S h1 K h3}
 cases p with
 |t i=>
  refine{h with
   tm:=fun t=>?_,tips:=tips,tipinj:=tipinj}
  simp only[View.setAt,View.put]
  split
  ·rename_i e;subst e;exact hy _ (h.tm t)
  ·exact h.tm t
 |c b j=>
  obtain⟨k,hk,hj⟩:=hp
  have U:=View.hp_setAt_c (j:=j) hk y
  refine{h with
   tm:=fun t=>?_,hp:=fun L k' A=>?_,dom:=fun L D=>?_,tips:=tips,tipinj:=tipinj}
  ·rw[View.tm_setAt_c];exact h.tm t
  ·rw[U]at A
   simp only at A
   by_cases e:L=b
   ·subst e
    simp only[if_true]at A;cases A
    obtain⟨c,hc,h1,K,h3⟩:=h.hp L k hk
    refine⟨c,hc,h1,?_,h3⟩
    have al:∀v,Holds fz (k.at j) ρ v->Holds fz y ρ v:=by
     grind [View.at]
    cases k with
     |cells e cs=>
      obtain⟨cur,x1,M,J⟩:=K
      refine⟨cur,x1,M.set_same j y fun x v W hv=>?_,J⟩
      obtain⟨v',Y,hh⟩:=M.get _ _ _ j x W
      simp_all [Blk.at]
     |map ks vs=>
      obtain⟨es,clock,x1,M,J,x4⟩:=K
      refine⟨es,clock,x1,M,J.set_same j y fun x v W hv=>?_,x4⟩
      obtain⟨v',Y,hh⟩:=J.get _ _ _ j x W
      simp_all [Blk.at]
     |hid l o=>exact K
     |mapd ks vs=>
      obtain⟨es,clock,x1,M,J,x4⟩:=K
      refine⟨es,clock,x1,M,J.set_same j y fun x v W hv=>?_,x4⟩
      obtain⟨v',Y,hh⟩:=J.get _ _ _ j x W
      simp_all [Blk.at]
   ·simp only[e,if_false]at A;exact h.hp L k' A
  ·rw[U]at D
   simp only at D
   by_cases e:L=b
   ·simp_all
   ·simp only[e,if_false]at D;exact h.dom L D
theorem SimE.demote (h:SimE C V a w fz ρ) {p:Pl} (hp:V.hasPl p):SimE C (V.setAt p (dem (V.at p))) a w fz ρ:=
 h.reflag hp (fun _ o=>o.dem) (fun e wd rows he=>by have:=cV (V.at p);rw[he]at this;cases this) (fun A=>by simp_all [cV])
theorem SimE.move (h:SimE C V a w fz ρ) {p q:Pl} (Y:p≠q) (hp:aG (V.at p)=true) (Z:V.hasPl q) (aa:V.at q=dem (V.at p)) (hc:bM a w ρ q=bM a w ρ p): SimE C ((V.setAt p (dem (V.at p))).setAt q (V.at p)) a w fz ρ:=by
 have o:=View.hasPl_of_own hp;have h1:=h.demote o;have J:=fun r=>View.at_setAt V p r (dem (V.at p)) o;obtain⟨e,wd,rows,D⟩:∃e wd rows,V.at p=.own e wd rows:=by cases hx:V.at p<;>simp_all [aG]<;>simp_all
 have O:=h.tips p e wd rows D;refine h1.reflag ?_ (fun v hv=>?_) (fun e' ac K he=>?_) (fun _ r hr E g g' n n' c c' S L=>?_);{cases q with|t i=>trivial|c b j=>obtain⟨k,hk,U⟩:=Z;cases p with|t i=>exact⟨k,hk,U⟩|c W I=>obtain⟨k',A,ag⟩:=o;have ah:=View.hp_setAt_c (j:=I) A (dem (V.at (.c W I)));by_cases e2:b=W;{subst e2;rw[hk]at A;cases A;refine⟨k.set I (dem (V.at (.c b I))),by simp_all,?_⟩;cases k<;>simp_all [Blk.set,Blk.len]};{exact⟨k,by simp_all,U⟩}};{simp_all [if_neg,Aw.dem,Holds]};{simp_all};{have G:r≠p:=(by rintro rfl;simp_all [if_pos,cV]);rw[J r,if_neg G]at E;intro M;rw[hc]at S;exact G (h.tipinj p r hp E g g' n n' c c' S L M).symm}
theorem SimE.take (h:SimE C V a w fz ρ) {p:Pl} (hp:V.hasPl p) {d:Nat} (K:d<C.N) (E:p≠ .t d) (I:Holds fz (V.at p) ρ (bM a w ρ p)): SimE C ((V.setAt p (dem (V.at p))).put d (V.at p)) (a.put (some d) (bM a w ρ p)) w fz ρ:=by
 have J:d<a.tmps.size:=by rw[h.sz];exact K
 have h1:=h.put K I.dem (cV _);have o:(V.put d (dem (V.at p))).at p=V.at p:=by cases p with|t i=>simp_all [View.at,View.put]|c b j=>rfl
 have D:bM (a.put (some d) (bM a w ρ p)) w ρ p=bM a w ρ p:=by cases p with|t i=>simp_all [tV,if_neg]|c b j=>rfl
 have A:∀x,(V.put d x).setAt p (dem (V.at p))=(V.setAt p (dem (V.at p))).put d x:=by intro x;cases p with|t i=>have:i≠d:=fun e=>E (by rw[e]);simp only[View.setAt,View.put,View.mk.injEq,and_true];grind|c b j=>cases hk:V.hp b with|none=>simp[View.setAt,View.put,hk]|some k=>simp[View.setAt,View.put,hk,View.setB]
 by_cases G:aG (V.at p)=true;{have L:=h1.move (p:=p) (q:=.t d) E (by rw[o];exact G) trivial (by rw[o];simp[View.at,View.put]) (by rw[tV _ _ _ J,if_pos rfl,D]);rw[o,A]at L;have:(((V.setAt p (dem (V.at p))).put d (dem (V.at p))).setAt (.t d) (V.at p))=(V.setAt p (dem (V.at p))).put d (V.at p):=(by simp only[View.setAt,View.put,View.mk.injEq,and_true];funext t;split<;>rfl);simp_all};{have O:aG (V.at p)=false:=(by simpa using G);have M:dem (V.at p)=V.at p:=(by cases S:V.at p<;>simp_all [aG,Aw.dem]);have L:=h1.reflag (p:=p) (y:=dem (V.at p)) (by cases p with|t i=>trivial|c b j=>exact hp) (fun v I=>by rw[o]at I;exact I.dem) (fun e wd rows he=>by have:=cV (V.at p);rw[he]at this;cases this) (fun G=>by rw[cV]at G;cases G);simp_all}
end Go.Aw
end
