/- The evaluator: values put together, fields, operators. -/
import Derived.Test.YtackjebfmbnkbaaGreatDoorP37
import Derived.Test.YtackjebfmbnkbaaGreatDoorP33
import Derived.Test.YtackjebfmbnkbaaGreatDoorP35
set_option linter.unusedSimpArgs false
set_option linter.unusedVariables false
set_option linter.unusedSectionVars false
section
open Go Go.Aw Go.Proofs
open Tryz
namespace Go.Al
set_option maxRecDepth 100000
set_option maxRecDepth 20000
instance:FT prog f233:=.n
instance:FT prog f176:=.n
instance:FT prog f177:=.n
instance:FT prog f179:=.n
attribute [local simp] aP aV bG bK
set_option maxHeartbeats 1000000 in
set_option maxRecDepth 100000 in
theorem bZK (s : ByteArray) (w : World) : Calls prog 233 #[.pointer none, .string s] w fun e w' => e = .returned (.tuple #[.agg #[.string ⟨#[]⟩, .slice none 0 0, .int .i64 0, .slice none 0 0], .bool false]) /\ Ext w w' := by
  go_enter func233, ntmps233
  go_wp2
  (try simp only [Exit.inBlock, Exit.then])
  refine bodyPost_ret (by simp [results, results233, go_sem]; try rfl) rfl ?_
  simp [Ext.alloc]
theorem bKM (s:ByteArray):Con prog 233 [.val (.pointer none),aE s] (.tup [.agg [aE ⟨#[]⟩,.val (.slice none 0 0),aB 0,.val (.slice none 0 0)],aD false]):=
 Con.libU [.pointer none,.string s] _ rfl ⟨_,func233,by kernel_rfl,rfl⟩ fun fz w o A=>by
  refine(bZK s w).mono ?_
  simp_all [Holds,HoldsL]
def aVL (l:List ValD):ValD:=⟨5,0,⟨#[]⟩,l⟩
theorem aVK (vs:List Bnd) (e:ExprD) (hk:e.kind=4\/e.kind=5) (O:e.args.length<=1048576) (G:∀a∈e.args,EvC vs a) (I:e.kind=4->aJ (fC (e.args.map (evV vs))).1<=549755813888): Con prog 176 [gJ vs,bG e] (.tup [aP (aDY e.kind (e.args.map (evV vs))).1,aB (aDY e.kind (e.args.map (evV vs))).2]):=by
 have W:=bKM e.name;have S:=bAD vs e.args O G;unfold aDY;generalize fC (e.args.map (evV vs))=L at*;obtain⟨l,err⟩:=L;simp only at S I|-;have D:e.kind=4->aY (aVL l)<=1099511627776:=fun E=>by have I:=I E;show 1+(⟨#[]⟩:ByteArray).size+aJ l<=_;have:(⟨#[]⟩:ByteArray).size=0:=rfl;omega
 have A:=fun E=>mQ (aVL l) (D E);have J:=fun E=>bWM _ (aVL l) (Nat.lt_succ_self _) (D E);have U:aP (aVL l)=.agg [dC 5,aB 0,aE ⟨#[]⟩,.rd 4 (l.map bA)]:=rfl;have hp:cBZ l=if cF (aVL l)=65\/4096<lH (aVL l)then(v0,80)else if cF (aVL l)=0 then(aVL l,0)else(v0,4):=rfl
 rw[hp];simp only[U]at A J;refine Con.oc func176 fun C Y Z=>?_;refine bQ ?_;rcases hk with hk|hk;{have A:=A hk;have J:=J hk;rw[if_neg (by omega)];refine .cnd (fun c1=>?_) (fun c1=>?_);{simp[hk]at c1};refine goX [{r:=.tup [.rd 4 (l.map bA),aB err]}] fun K M=>?_;simp[gJ];refine ck M ?_;refine aA ?_;refine .cnd (fun c2=>?_) (fun c2=>?_);{have c2:¬err=0:=(by simpa using c2);rw[if_neg c2];refine aA ?_;refine .re ?_;exact dM _};have c2:err=0:=(by simpa using c2);rw[if_pos c2];refine aA ?_;refine .seq<| .seq ?_;generalize cF (aVL l)=o at*;generalize lH (aVL l)=ins at*;refine goC [{r:=aB o}] ?_;refine goC [{r:=aB ins}] ?_;refine .cnd (fun c3=>?_) (fun c3=>?_);{have c3:o=65\/4096<ins:=(by revert c3;simp;by_cases x:o=65;{simp[x]};{simp[x];omega});rw[if_pos c3];refine aA ?_;refine .re ?_;exact dM 80};have c3:¬ (o=65\/4096<ins):=(by revert c3;simp;by_cases x:o=65;{simp[x]};{simp[x];omega});rw[if_neg c3];refine aA ?_;refine .cnd (fun c4=>?_) (fun c4=>?_);{have c4:¬o=0:=(by simpa using c4);rw[if_neg c4];refine aA ?_;refine .re ?_;exact dM 4};have c4:o=0:=(by simpa using c4);rw[if_pos c4];refine aA ?_;exact rtC};{rw[if_pos hk];refine .cnd (fun c1=>?_) (fun c1=>?_);{refine dZ [{r:=.tup [.agg [aE ⟨#[]⟩,.val (.slice none 0 0),aB 0,.val (.slice none 0 0)],aD false]}] fun K M=>?_;simp[gJ];refine ck M ?_;refine aA ?_;refine .ct (by simp) ?_;refine aA ?_;refine .re ?_;exact dM 63};simp[hk]at c1}
theorem aWG (vs:List Bnd) (e:ExprD) (E:e.args.length=1) (o:∀a∈e.args,EvC vs a):Con prog 177 [gJ vs,bG e] (.tup [aP (aFI (e.args.map (evV vs))).1,aB (aFI (e.args.map (evV vs))).2]):=by
 obtain⟨x,A⟩:∃x,e.args=[x]:=List.length_eq_one_iff.1 E;have G:EvC vs x:=o x (by rw[A];simp);unfold EvC at G;have I:aFI (e.args.map (evV vs))=if(evV vs x).2=0 then(v0,70)else(v0,(evV vs x).2):=by rw[A];rfl
 rw[I];generalize evV vs x=r at*;have J:=bKM r.1.s;refine Con.oc func177 fun C L M=>?_;refine aA ?_;refine goX [{r:=.tup [aP r.1,aB r.2]}] fun K D=>?_;simp[gJ,A];refine ck D ?_;refine aA ?_;refine .cnd (fun c1=>?_) (fun c1=>?_);{have c1:¬r.2=0:=(by simpa using c1);rw[if_neg c1];refine aA ?_;refine .re ?_;exact dM _};have c1:r.2=0:=by simpa using c1
 rw[if_pos c1];refine dZ [{r:=.tup [.agg [aE ⟨#[]⟩,.val (.slice none 0 0),aB 0,.val (.slice none 0 0)],aD false]}] fun K D=>?_;simp[gJ];refine ck D ?_;refine aA ?_;refine .cnd (fun c2=>?_) (fun c2=>?_);{refine aA ?_;refine .re ?_;exact dM 70};simp at c2
theorem cRI {α:Type} {l:List α} (h:l.length=2):∃x y,l=[x,y]:=by match l,h with|[x,y],_=>simp
theorem aKZ:∀l:List iL,(fC l).2=0->(fC l).1.length=l.length|[],_=>rfl|r::l,h=>by have o:=aKZ l;unfold fC at h|-;grind
def cRG (v:ValD):Prop:=aY v<=549755813888/\v.s.size<=4194304/\ -9223372036854775808<=v.n/\v.n<=9223372036854775807
theorem bEJ (vs:List Bnd) (e:ExprD) (S:(e.args.length=2/\(uV e.name=true\/e.name=tAnd\/e.name=tOr))\/(e.args.length=1/\ ¬e.name=tAnd/\ ¬e.name=tOr)) (I:∀a∈e.args,EvC vs a) (D:∀v∈(fC (e.args.map (evV vs))).1,cRG v): Con prog 179 [gJ vs,bG e] (.tup [aP (xK e.name (e.args.map (evV vs))).1,aB (xK e.name (e.args.map (evV vs))).2]):=by
 have hL:=bAD vs e.args (by rcases S with h|h<;>omega) I;by_cases o:e.name=tAnd\/e.name=tOr
 ·have M:e.args.length=2:=(by rcases S with h|h;{exact h.1};{rcases o with x|x;{exact absurd x h.2.1};{exact absurd x h.2.2}});obtain⟨x,y,A⟩:∃x y,e.args=[x,y]:=cRI M;have hx:=aJV vs x (I x (by rw[A];simp));have hy:=aJV vs y (I y (by rw[A];simp));have U:xK e.name (e.args.map (evV vs))=if(bCZ (decide (e.name=tAnd)) [evV vs x,evV vs y]).2=0 then(pY (bCZ (decide (e.name=tAnd)) [evV vs x,evV vs y]).1,0)else(v0,(bCZ (decide (e.name=tAnd)) [evV vs x,evV vs y]).2):=by unfold xK;rw[if_pos o,A];rfl
  have W:bCZ (decide (e.name=tAnd)) [evV vs x,evV vs y]=if(iS (evV vs x)).2=0 then(if(iS (evV vs x)).1=decide (e.name=tAnd)then iS (evV vs y)else iS (evV vs x))else iS (evV vs x):=rfl
  rw[U,W];generalize iS (evV vs x)=a at*;generalize iS (evV vs y)=b at*;have J:(decide (e.name=⟨#[97,110,100]⟩)||decide (e.name=⟨#[111,114]⟩))=true:=(by rcases o with h|h;{rw[h];rfl};{rw[h];rfl});have ae:=wG a.1;have af:=wG b.1;refine Con.oc func179 fun C hC hM=>?_;refine aK ?_;refine .cnd (fun c1=>?_) (fun c1=>?_);{refine goX [{r:=.tup [aD a.1,aB a.2]}] fun K E=>?_;simp[gJ,A];refine ck E ?_;refine .seqJ (fun r:Bool×Int=>{tm:=[(4,.ptr 4 0),(6,aD r.1),(7,aB r.2)],hp:=[(4,.cells 33 [dC 0,aB 0,aE ⟨#[]⟩,.val (.slice none 0 0)])]}) (fun r=>r=if a.2=0 then(if a.1=decide (e.name=tAnd)then b else a)else a) ?_ (fun Z=>?_);{rintro r rfl;generalize(if a.2=0 then(if a.1=decide (e.name=tAnd)then b else a)else a)=r at*;have O:=wG r.1;refine aA ?_;refine .cnd (fun c2=>?_) (fun c2=>?_);{have c2:¬r.2=0:=(by simpa using c2);rw[if_neg c2];refine aA ?_;refine .re ?_;exact dM _};have c2:r.2=0:=(by simpa using c2);rw[if_pos c2];refine goC [{r:=aP (pY r.1)}] ?_;exact rtC};{refine aA ?_;refine .cnd (fun c2=>?_) (fun c2=>?_);{rw[Bool.and_eq_true]at c2;have c2:a.2=0/\a.1=decide (e.name=tAnd):=⟨of_decide_eq_true c2.1,(eq_of_beq c2.2).trans (decide_eq_decide.2 Iff.rfl)⟩;refine goX [{r:=.tup [aD b.1,aB b.2]}] fun K E=>?_;simp[gJ,A];refine ck E ?_;exact Z _ b (by rw[if_pos c2.1,if_pos c2.2]) (by simp)};have c2:¬ (a.2=0/\a.1=decide (e.name=tAnd)):=(by intro h;have:(decide (a.2=0)&&a.1==decide (e.name=tAnd))=true:=(by simp[h.1,h.2]);rw[show(decide (a.2=0)&&a.1==decide (e.name=tAnd))=false from c2]at this;cases this);refine .skip ?_;exact Z _ a (by by_cases h:a.2=0;{rw[if_pos h,if_neg (fun q=>c2 ⟨h,q⟩)]};{rw[if_neg h]}) (by simp)}};simp[J]at c1
 ·have hlen:=aKZ (e.args.map (evV vs));rw[List.length_map]at hlen;have U:xK e.name (e.args.map (evV vs))=if(fC (e.args.map (evV vs))).2=0 then(if e.args.length=1 then bCQ e.name ((fC (e.args.map (evV vs))).1.getD 0 v0)else aOI e.name ((fC (e.args.map (evV vs))).1.getD 0 v0) ((fC (e.args.map (evV vs))).1.getD 1 v0))else(v0,(fC (e.args.map (evV vs))).2):=by unfold xK;rw[if_neg o,List.length_map]
  rw[U];generalize fC (e.args.map (evV vs))=L at*;obtain⟨l,err⟩:=L;simp only at hL D hlen|-;have J:(decide (e.name=⟨#[97,110,100]⟩)||decide (e.name=⟨#[111,114]⟩))=false:=(by have h1:¬e.name=⟨#[97,110,100]⟩:=fun h=>o (.inl h);have M:¬e.name=⟨#[111,114]⟩:=fun h=>o (.inr h);simp[h1,M]);refine Con.oc func179 fun C hC hM=>?_;refine aK ?_;refine .cnd (fun c1=>?_) (fun c1=>?_);{simp[J]at c1};refine goX [{r:=.tup [.rd 4 (l.map bA),aB err]}] fun K E=>?_;simp[gJ];refine ck E ?_;refine aA ?_;refine .cnd (fun c2=>?_) (fun c2=>?_);{have c2:¬err=0:=(by simpa using c2);rw[if_neg c2];refine aA ?_;refine .re ?_;exact dM _};have c2:err=0:=(by simpa using c2);have hlen:=hlen c2;rw[if_pos c2];refine aA ?_;rcases S with⟨M,O⟩|⟨h1,_⟩;{have O:uV e.name=true:=(by rcases O with h|h|h;{exact h};{exact absurd (.inl h) o};{exact absurd (.inr h) o});rw[if_neg (by omega)];obtain⟨x,y,rfl⟩:=cRI (hlen.trans M);obtain⟨a1,a2,a3,a4⟩:=D x (by simp);obtain⟨b1,b2,b3,b4⟩:=D y (by simp);refine .cnd (fun c3=>?_) (fun c3=>?_);{simp at c3};refine .skip ?_;have ak:∀a∈aGI,cW (.string e.name) a=true:=fun a ha=>(by obtain⟨q,_,rfl⟩:=List.mem_map.1 ha;rfl);rcases cAV O x y a1 b1 a2 b2 with⟨_,Y,G⟩|⟨g,ab,Y,hY,hn,G⟩;{simp only[List.getD_cons_zero,List.getD_cons_succ];generalize aOI e.name x y=r at*;refine dZ [{r:=.tup [aP r.1,aB r.2]}] fun K E=>?_;simp[gJ,bFU,Y,fnA];refine ck E ?_;exact rtC};{simp only[List.getD_cons_zero,List.getD_cons_succ];generalize aOI e.name x y=r at*;have g1:g<1000000:=hY;have g2:¬999999<g:=Nat.not_lt.2 (Nat.le_of_lt_succ g1);refine dZ [{r:=.tup [aP r.1,aB r.2]}] fun K E=>?_;simp[gJ,bFU,Y,g1,g2,hn];(repeat first|refine ob ?_ |refine⟨by intros;exact aX (by simp[hn]) G,?_⟩);refine E _ ?_;exact rtC}};{rw[if_pos h1];obtain⟨x,rfl⟩:=List.length_eq_one_iff.1 (hlen.trans h1);obtain⟨a1,a2,a3,a4⟩:=D x (by simp);have ho:=cFI e.name x a2 a3 a4;simp only[List.getD_cons_zero];generalize bCQ e.name x=r at*;refine .cnd (fun c3=>?_) (fun c3=>?_);{refine goE [{r:=.tup [aP r.1,aB r.2]}] ?_;exact rtC};simp at c3}
end Go.Al
end
section
open Go Go.Aw Go.Proofs
namespace Go.Al
def inR (n:Int):Prop:=-9223372036854775808<=n/\n<=9223372036854775807
theorem aGE (n:Int):inR (IntKind.i64.wrap n):=by grind [inR,IntKind.wrap_i64]
def bN (v:ValD):Prop:=cF v=0/\rng v/\aY v<=67108864
theorem bPT {k n:Int} {s:ByteArray} (h1:bU ⟨k,n,s,[]⟩=true) (o:fV ⟨k,n,s,[]⟩=true):cF ⟨k,n,s,[]⟩=0:=by unfold cF;simp[depth,iP,gW,gB,aBG,tU,h1,o]
theorem yM {k n:Int} {s:ByteArray} (h1:bU ⟨k,n,s,[]⟩=true) (o:fV ⟨k,n,s,[]⟩=true) (A:inR n) (D:s.size<=1000000):bN ⟨k,n,s,[]⟩:=
 ⟨bPT h1 o,by simp only[rng,iM,and_true];exact A,by grind [aY,aJ]⟩
theorem jG (b:Bool):bN (pY b):=yM (by cases b<;>rfl) (by rfl) (by grind [inR]) (by decide)
theorem oN {n:Int} (h:inR n):bN (cR n):=yM (by rfl) (by rfl) h (by decide)
theorem mG {s:ByteArray} (h:mW s<=200):s.size<=201:=by grind [mW]
theorem aCH {s:ByteArray} (h:lG s):bN (bOK s):=yM (by simp[bU,ValD.kind,ValD.s,ValD.l,ValD.n,h.1]) (by simp[fV,ValD.kind,ValD.s,h.2]) (by simp[inR]) (by have:=mG h.2;omega)
theorem bMR {s:ByteArray} (h:s.size<=4096):bN (cAZ s):=yM (by rfl) (by simp[fV,ValD.kind,ValD.s,h]) (by simp[inR]) (by omega)
theorem uE {v:ValD} (h:cF v=0):aBG v=true:=by grind [cF]
theorem aMH {s:ByteArray} (h:oS s=true):s.size<=32:=by simp_all [oS,Bool.and_eq_true,decide_eq_true_eq]
theorem bPC {s:ByteArray} (h:xR s=true):s.size<=65:=by unfold xR at h;rw[Bool.and_eq_true]at h;have h:=h.2;split at h;{rename_i A;rw[Bool.and_eq_true]at h;have h1:=aMH h.1;have o:=aMH h.2;rw[<-dQ,kM,List.length_take,List.length_drop,dQ]at h1 o;omega};grind [aMH]
theorem aYX {v:ValD} (h1:bU v=true) (o:fV v=true):v.s.size<=4096:=by unfold bU at h1;unfold fV at o;split at h1;{simp only[Bool.and_eq_true,decide_eq_true_eq]at h1;rw[h1.1.2];decide};{split at h1;{simp only[Bool.and_eq_true,decide_eq_true_eq]at h1;rw[h1.1];decide};{split at h1;{rename_i e;rw[if_pos e]at o;have:=mG (of_decide_eq_true o);omega};{split at h1;{simp_all};{split at h1;{simp only[Bool.and_eq_true,decide_eq_true_eq]at h1;rw[h1.1.2];decide};{split at h1;{rw[Bool.and_eq_true]at h1;grind [bPC]};{cases h1}}}}}}
theorem aRR {v:ValD} (h:bN v):v.s.size<=4096:=by have h1:=gY h.1;have o:=uE h.1;simp_all [qP,Bool.and_eq_true,aIF,aYX]
mutual
theorem aMR:∀v:ValD,gW v=true->aBG v=true->aY v<=4097*lH v| .mk k n s l,h1,o=>by simp only[gW,Bool.and_eq_true]at h1;simp only[aBG,Bool.and_eq_true]at o;have A:=aYX h1.1 o.1;have D:=aGN l h1.2 o.2;grind [ValD.s,aY,lH]
theorem aGN:∀l:List ValD,gB l=true->tU l=true->aJ l<=4097*fS l
 |[],_,_=>by simp[aJ]
 |v::l,h1,o=>by simp only[gB,Bool.and_eq_true]at h1;simp only[tU,Bool.and_eq_true]at o;have a:=aMR v h1.1 o.1;have b:=aGN l h1.2 o.2;grind [aJ,fS]
end
theorem aQX:∀ {l:List ValD},(∀v∈l,rng v)->iM l
 |[],_=>by simp[iM]
 |v::l,h=>by simp only[iM];exact⟨h v (by simp),aQX fun w hw=>h w (by simp[hw])⟩
theorem bVJ {l:List ValD} (o:∀v∈l,bN v) (h:(cBZ l).2=0):bN (cBZ l).1:=by unfold cBZ at h|-;split;{simp_all};{rename_i c;rw[if_neg c]at h;split;{rename_i c2;have h1:=aMR _ (gY c2) (uE c2);have A:rng (.mk 5 0 ⟨#[]⟩ l):=(by simp only[rng];exact⟨by omega,aQX fun v D=>(o v D).2.1⟩);exact⟨c2,A,by show aY (.mk 5 0 ⟨#[]⟩ l)<=_;omega⟩};simp_all}
theorem cLR (a b:Int):inR (bKB a b).1:=by grind [bKB,inR,aGE]
theorem bBX (a b:Int):inR (aCZ a b).1:=by grind [aCZ,inR,aGE]
theorem cJV (a b:Int):inR (bMW a b).1:=by grind [bMW,inR,aGE]
theorem cKY (a b:Int):inR (bOC a b).1:=by grind [bOC,inR,bBX,aGE]
theorem cJZ {a b:Int} (h:inR a):inR (bMY a b).1:=by unfold bMY;split;{simp[inR]};{split;{simp[inR]};{unfold inR at h|-;have h1:=Int.natAbs_tmod a b;have o:(a.tmod b).natAbs<=a.natAbs:=(by simp[Nat.mod_le]);simp only;have A:a.tmod b<0->a<0:=fun x=>(by grind [Int.tmod_nonneg]);have D:0<a.tmod b->0<a:=fun x=>(by by_cases E:a<=0;{have:=Int.tmod_nonneg b (show 0<= -a by omega);grind [Int.neg_tmod]};{omega});omega}}
theorem tN {ints:Int->Int->Int×Int} {o:ByteArray->ByteArray->ByteArray×Int} {a b:ValD} (hi:inR (ints a.n b.n).1) (A:(o a.s b.s).2=0->lG (o a.s b.s).1) (h:(aAN ints o a b).2=0):bN (aAN ints o a b).1:=by unfold aAN at h|-;split;{rename_i c;rw[if_pos c]at h;split;{exact oN hi};simp_all};{rename_i c;rw[if_neg c]at h;split;{rename_i c1;rw[if_pos c1]at h;split;{rename_i c2;exact aCH (A c2)};{rename_i c2;rw[if_neg c2]at h;exact absurd h c2}};simp_all}
theorem yL {v:ValD} (h:bN v):inR v.n:=by have:=h.2.1;rw[aQY]at this;exact this.1
theorem bVI {s:ByteArray} {a b:ValD} (D:bN a) (h:(aOI s a b).2=0):bN (aOI s a b).1:=by by_cases o:uV s=true;{have G:∀f,bN (aVW f a b).1:=fun f=>jG _;rcases aBA o with rfl|rfl|rfl|rfl|rfl|rfl|rfl|rfl|rfl|rfl|rfl|rfl;{exact tN (cLR _ _) aJE h};{exact tN (bBX _ _) cIT h};{exact tN (cJV _ _) cJU h};{exact tN (cKY _ _) cKX h};{exact tN (cJZ (yL D)) cJY h};{exact jG _};{exact jG _};{exact jG _};{exact jG _};{exact jG _};{exact jG _};{have e:aOI ⟨#[43,43]⟩ a b=aJW a b:=rfl;rw[e]at h|-;unfold aJW at h|-;split;{simp_all};{rename_i c;rw[if_neg c]at h;split;{rename_i c2;rw[if_pos c2]at h;cases h};simp_all [bMR,dQ,bl]}}};{exfalso;unfold aOI at h;cases A:twos.find? fun p=>decide (p.1=s)with|none=>simp_all|some p=>have h1:=List.mem_of_find?_eq_some A;have E:=List.find?_some A;exact o (List.any_eq_true.2 ⟨p,h1,E⟩)}
theorem aYF {l:List UInt8} {n:Int} (h:Lib.parseIntB 64 l=.ok n):inR n:=by unfold Lib.parseIntB at h;cases l with|nil=>cases h|cons c r=>simp only at h;split at h;{cases h};{cases h};{rename_i u _;split at h;{cases h};{rename_i h1;split at h;{cases h};{rename_i o;injection h with h;subst h;unfold inR;omega}}}
theorem bVK {s:ByteArray} {a:ValD} (o:bN a) (h:(bCQ s a).2=0):bN (bCQ s a).1:=by have A:=yL o;have E:=aRR o;unfold bCQ at h|-;split;{exact jG _};{rename_i c1;rw[if_neg c1]at h;split;{rename_i c2;rw[if_pos c2]at h;split;{exact oN (bBX _ _)};simp_all};{rename_i c2;rw[if_neg c2]at h;split;{rename_i c3;refine aCH (cJP ?_);have h1:=gY o.1;have G:=uE o.1;refine⟨aBD h1 c3.2,?_⟩;simp_all [aIF,Bool.and_eq_true,fV,if_pos,of_decide_eq_true]};{rename_i c3;rw[if_neg c3]at h;split;{grind [oN,inR]};{rename_i c4;rw[if_neg c4]at h;split;{exact aCH (cCQ A.1 A.2)};{rename_i c5;rw[if_neg c5]at h;split;{rename_i D;rw[if_pos D]at h;split;{rename_i d;refine oN ?_;unfold oO at d|-;split;{rename_i e;rw[if_pos e]at d;cases hp:Lib.parseIntB 64 (bl a.s)with|ok n=>simp only[hp];exact aYF hp|_=>simp only[hp];unfold inR;omega};{unfold inR;omega}};{rename_i d;rw[if_neg d]at h;cases h}};simp_all}}}}}
mutual
def sE:ExprD->Prop
 | .mk _ _ _ _ v args=>rng v/\iE args
def iE:List ExprD->Prop
 |[]=>True
 |e::l=>sE e/\iE l
end
theorem bCH (e:ExprD):sE e=(rng e.v/\iE e.args):=by cases e;rfl
theorem sM {e:ExprD}:∀ {l:List ExprD},e∈l->iE l->sE e|x::l,h,o=>by simp only[iE]at o;rcases List.mem_cons.1 h with rfl|h;{exact o.1};{exact sM h o.2}
theorem yX {e:ExprD}:∀ {l:List ExprD},e∈l->yY l=true->pM e=true|x::l,h,o=>by simp only[yY,Bool.and_eq_true]at o;rcases List.mem_cons.1 h with rfl|h;{exact o.1};{exact yX h o.2}
def cJL (o:List iL):Prop:=∀r∈o,r.2=0->bN r.1
theorem uS:∀ {l:List iL},cJL l-> ∀v∈(fC l).1,bN v
 |[],_,v,o=>by grind [fC]
 |r::l,h,v,o=>by unfold fC at o;by_cases a:r.2=0;{rw[if_pos a]at o;by_cases b:(fC l).2=0;{rw[if_pos b]at o;rcases List.mem_cons.1 o with rfl|o;{exact h r (by simp) a};{exact uS (fun q A=>h q (by simp[A])) v o}};{rw[if_neg b]at o;simp at o}};simp_all
theorem cGV {l:List iL} (h:cJL l) {i:Nat} (hi:i<l.length) (o:(atV l i).2=0):bN (atV l i).1:=by
 have e:atV l i=l[i]:=by simp_all [atV,List.getD_eq_getElem?_getD,List.getElem?_eq_getElem]
 rw[e]at o|-;exact h _ (List.getElem_mem hi) o
theorem cFJ {vs:List Bnd} {e:ExprD} {A:List iL} (Y:∀b∈vs,bN b.2) (E:pM e=true) (Z:rng e.v) (he:bI e<=1048576) (hl:A.length=e.args.length) (K:cJL A) (h:(xG vs e.kind e.name e.v A).2=0):bN (xG vs e.kind e.name e.v A).1:=by have aa:=fL e;rw[xE]at E;unfold xG at h|-;split;{rename_i M;rw[if_pos M]at E;show bN e.v;exact⟨of_decide_eq_true E,Z,by omega⟩};{rename_i M;rw[if_neg M]at h E;split;{rename_i O;rw[if_pos O]at h;grind [bFN,gF,sR]};{rename_i O;rw[if_neg O]at h E;rw[Bool.and_eq_true]at E;have o:=E.1;unfold nF at o;split;{rename_i G;rw[if_pos G]at h;unfold aDY at h|-;split;{simp_all};{rename_i k5;rw[if_neg k5]at h;split;{rename_i L;rw[if_pos L]at h;exact bVJ (uS K) h};simp_all}};{rename_i G;rw[if_neg G]at h;have S:¬e.kind=4:=fun x=>G (.inl x);have U:¬e.kind=5:=fun x=>G (.inr x);rw[if_neg S,if_neg U]at o;split;{rename_i W;rw[if_pos W]at h;grind [aFI,absurd]};{rename_i W;rw[if_neg W]at h o;split;{rename_i I;rw[if_pos I]at h o;have h3:e.args.length=3:=of_decide_eq_true o;unfold ifR at h|-;split;{rename_i d;rw[if_pos d]at h;split;{rename_i d2;rw[if_pos d2]at h;exact cGV K (by omega) h};{rename_i d2;rw[if_neg d2]at h;exact cGV K (by omega) h}};simp_all};{rename_i I;rw[if_neg I]at h;unfold xK at h|-;split;{rename_i d;rw[if_pos d]at h;split;{exact jG _};simp_all};{rename_i d;rw[if_neg d]at h;split;{rename_i d2;rw[if_pos d2]at h;have hlen:=aKZ A d2;have J:=uS K;have D:∀i,i<A.length->bN ((fC A).1.getD i v0):=fun i hi=>(by rw[List.getD_eq_getElem?_getD,List.getElem?_eq_getElem (by omega)];exact J _ (List.getElem_mem _));split;{rename_i d3;rw[if_pos d3]at h;exact bVK (D 0 (by omega)) h};{rename_i d3;rw[if_neg d3]at h;by_cases h0:0<A.length;{exact bVI (D 0 h0) h};{exfalso;have ha:e.args.length=0:=(by omega);have I:¬e.kind=8:=(by assumption);rw[if_neg I]at o;by_cases L:e.kind=6;{rw[if_pos L,ha]at o;simp at o};{rw[if_neg L]at o;cases o}}}};simp_all}}}}}}
theorem bDU {vs:List Bnd} (A:∀b∈vs,bN b.2):∀ (n:Nat) (e:ExprD),bI e<n->bI e<=1048576->pM e=true->sE e->(evV vs e).2=0->bN (evV vs e).1
 |0,e,h,_,_,_,_=>by omega
 |n+1,e,M,he,D,E,h=>by have J:=fL e;rw[bCH]at E;rw[bNX]at h|-;have o:e.kind=1\/e.kind=2\/yY e.args=true:=(by rw[xE]at D;grind);rcases o with k|k|o;{unfold xG at h|-;rw[if_pos k];rw[xE,if_pos k]at D;show bN e.v;exact⟨of_decide_eq_true D,E.1,by omega⟩};{have K:¬e.kind=1:=(by omega);unfold xG at h|-;rw[if_neg K,if_pos k]at h|-;grind [bFN,gF,sR]};{refine cFJ A D E.1 he (by simp) (fun r G L=>?_) h;obtain⟨a,I,rfl⟩:=List.mem_map.1 G;have hm:=fA I;exact bDU A n a (by omega) (by omega) (yX I o) (sM I E.2) L}
end Go.Al
end
