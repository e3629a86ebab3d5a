/- The evaluator: what stands between two. -/
import Derived.Test.YtackjebfmbnkbaaGreatDoorP35
import Derived.Test.YtackjebfmbnkbaaGreatDoorP18
set_option linter.unusedSimpArgs false
set_option linter.unusedVariables false
set_option linter.unusedSectionVars false
section
open Go Go.Aw Go.Proofs
open Tryz
namespace Go.Al
set_option maxRecDepth 100000
set_option maxRecDepth 20000
instance:FT prog f153:=.n
instance:FT prog f221:=.n
instance:FT prog f164:=.n
instance:FT prog f231:=.n
instance:FT prog f171:=.n
attribute [local simp] aP aV
def fnA (f:Nat):AV:=.val (.func (.func f) #[] #[])
def aWJ (x:AV):AV:=.elt 1 [[x]] 0 0
def aOP (f g:Nat):AV:=.clo (.func 221) [aWJ (fnA f),aWJ (fnA g)]
def aHG (f:Nat):AV:=.clo (.func 231) [aWJ (fnA f)]
theorem tO (f g:Nat):Con prog 153 [fnA f,fnA g] (aOP f g):=by refine Con.oc func153 fun C A D=>?_;refine goX [] fun K o=>?_;simp[fnA];refine o _ ?_;refine goX [] fun K o=>?_;simp[fnA];refine o _ ?_;refine .re ?_;exact .clo (.cons (.ptr rfl (.cons (.closed rfl) .nil)) (.cons (.ptr rfl (.cons (.closed rfl) .nil)) .nil))
theorem wS (f:Nat):Con prog 164 [fnA f] (aHG f):=by refine Con.oc func164 fun C A D=>?_;refine goX [] fun K o=>?_;simp[fnA];refine o _ ?_;refine goX [] fun K o=>?_;simp[fnA];refine o _ ?_;refine .re ?_;exact .clo (.cons (.ptr rfl (.cons (.closed rfl) .nil)) .nil)
theorem dM {g:Nat->Option Blk} (e:Int):Rsv g (.tup [.agg [dC 0,aB 0,aE ⟨#[]⟩,.val (.slice none 0 0)],aB e]) (.tup [aP v0,aB e]):=
 .tup (.cons (.agg (.cons (.closed rfl) (.cons (.closed rfl) (.cons (.closed rfl) (.cons .nil .nil))))) (.cons (.closed rfl) .nil))
theorem aIL {g:Nat->Option Blk} (s:ByteArray):Rsv g (.tup [.agg [dC 3,aB 0,aE s,.val (.slice none 0 0)],aB 0]) (.tup [aP (bOK s),aB 0]):=
 .tup (.cons (.agg (.cons (.closed rfl) (.cons (.closed rfl) (.cons (.closed rfl) (.cons .nil .nil))))) (.cons (.closed rfl) .nil))
theorem bXN {g:Nat->Option Blk} (s:ByteArray):Rsv g (.tup [.agg [dC 4,aB 0,aE s,.val (.slice none 0 0)],aB 0]) (.tup [aP (cAZ s),aB 0]):=
 .tup (.cons (.agg (.cons (.closed rfl) (.cons (.closed rfl) (.cons (.closed rfl) (.cons .nil .nil))))) (.cons (.closed rfl) .nil))
theorem aHO (f g:Nat) (ints:Int->Int->Int×Int) (o:ByteArray->ByteArray->ByteArray×Int) (a b:ValD) (G:Con prog f [aB a.n,aB b.n] (.tup [aB (ints a.n b.n).1,aB (ints a.n b.n).2])) (I:Con prog g [aE a.s,aE b.s] (.tup [aE (o a.s b.s).1,aB (o a.s b.s).2])) (A:f<YB) (D:g<YB): Con prog 221 [aP a,aP b,aWJ (fnA f),aWJ (fnA g)] (.tup [aP (aAN ints o a b).1,aB (aAN ints o a b).2]):=by
 have f1:f<1000000:=A;have f2:¬999999<f:=by omega
 have g1:g<1000000:=D;have g2:¬999999<g:=by omega
 unfold aAN;generalize ints a.n b.n=r at*;generalize o a.s b.s=q at*;refine Con.oc func221 fun C J L=>?_;refine aK ?_;refine .cnd (fun c1=>?_) (fun c1=>?_);{have c1:a.kind=2/\b.kind=2:=(by simpa using c1);rw[if_pos c1];refine goX [{r:=.tup [aB r.1,aB r.2]}] fun K E=>?_;simp[aWJ,fnA,f1,f2];refine ck E ?_;refine aA ?_;refine .cnd (fun c2=>?_) (fun c2=>?_);{have c2:¬r.2=0:=(by simpa using c2);rw[if_neg c2];refine aA ?_;refine .re ?_;exact dM _};have c2:r.2=0:=(by simpa using c2);rw[if_pos c2];have hw:=aBU r.1;refine goC [{r:=aP (cR r.1)}] ?_;exact rtC};have c1:¬ (a.kind=2/\b.kind=2):=by simpa using c1
 rw[if_neg c1];refine aA ?_;refine .cnd (fun c3=>?_) (fun c3=>?_);{have c3:a.kind=3/\b.kind=3:=(by simpa using c3);rw[if_pos c3];refine goX [{r:=.tup [aE q.1,aB q.2]}] fun K E=>?_;simp[aWJ,fnA,g1,g2];refine ck E ?_;refine aA ?_;refine .cnd (fun c2=>?_) (fun c2=>?_);{have c2:¬q.2=0:=(by simpa using c2);rw[if_neg c2];refine aA ?_;refine .re ?_;exact dM _};have c2:q.2=0:=(by simpa using c2);rw[if_pos c2];refine aA ?_;refine .re ?_;exact aIL _};have c3:¬ (a.kind=3/\b.kind=3):=by simpa using c3
 rw[if_neg c3];refine aA ?_;refine .re ?_;exact dM 70
theorem aCG (f:Nat) (is:Int->Bool) (a b:ValD) (E:aY a<=549755813888) (G:aY b<=549755813888) (A:∀c,Con prog f [aB c] (aD (is c))) (o:f<YB): Con prog 231 [aP a,aP b,aWJ (fnA f)] (.tup [aP (aVW is a b).1,aB (aVW is a b).2]):=by
 have I:=aMM a b (by omega) (by omega);have hi:=A (oQ a b);have J:=wG (is (oQ a b));have f1:f<1000000:=o;have f2:¬999999<f:=by omega
 unfold aVW;generalize is (oQ a b)=t at*;refine Con.oc func231 fun C L M=>?_;refine aA ?_;refine dZ [{r:=aB (oQ a b)},{r:=aD t},{r:=aP (pY t)}] fun K D=>?_;simp[aWJ,fnA,f1,f2];refine ck D ?_;exact rtC
theorem bTT (a b:ValD) (A:aY a<=1099511627776) (D:aY b<=1099511627776):Con prog 171 [aP a,aP b] (.tup [aP (aJW a b).1,aB (aJW a b).2]):=by
 have h1:=cM a;have E:=cM b;unfold aJW;refine Con.oc func171 fun C G I=>?_;refine aK ?_;refine .cnd (fun c1=>?_) (fun c1=>?_);{have c1:¬a.kind=4\/ ¬b.kind=4:=(by revert c1;simp;by_cases x:a.kind=4<;>simp[x]);rw[if_pos c1];refine aA ?_;refine .re ?_;exact dM 70};have c1:¬ (¬a.kind=4\/ ¬b.kind=4):=by revert c1;simp;by_cases x:a.kind=4<;>simp[x]
 rw[if_neg c1];have hw:IntKind.i64.wrap ((a.s.size:Int)+(b.s.size:Int))=((a.s.size+b.s.size:Nat):Int):=by rw[bH (by omega) (by omega)];omega
 refine goX [] fun K o=>?_;simp[hw];refine ck o ?_;refine .cnd (fun c2=>?_) (fun c2=>?_);{have c2:4096<a.s.size+b.s.size:=(by simp at c2;omega);rw[if_pos c2];refine aA ?_;refine .re ?_;exact dM 80};have c2:¬4096<a.s.size+b.s.size:=by simp at c2;omega
 rw[if_neg c2];refine aA ?_;refine .re ?_;exact bXN _
end Go.Al
end
section
open Go Go.Aw Go.Proofs
open Tryz
namespace Go.Al
set_option maxRecDepth 100000
set_option maxRecDepth 20000
instance:FT prog f165:=.n
instance:FT prog f166:=.n
instance:FT prog f167:=.n
instance:FT prog f168:=.n
instance:FT prog f169:=.n
instance:FT prog f170:=.n
instance:FT prog f114:=.n
attribute [local simp] aP aV
theorem cOL (c:Int):Con prog 165 [aB c] (aD (decide (c=0))):=by refine Con.oc func165 fun C o A=>?_;refine aK ?_;exact rtC
theorem cOK (c:Int):Con prog 166 [aB c] (aD (!decide (c=0))):=by refine Con.oc func166 fun C o A=>?_;refine aK ?_;exact rtC
theorem cOJ (c:Int):Con prog 167 [aB c] (aD (decide (c<0))):=by refine Con.oc func167 fun C o A=>?_;refine aK ?_;exact rtC
theorem cOI (c:Int):Con prog 168 [aB c] (aD (decide (c<=0))):=by refine Con.oc func168 fun C o A=>?_;refine aK ?_;exact rtC
theorem cOH (c:Int):Con prog 169 [aB c] (aD (decide (0<c))):=by refine Con.oc func169 fun C o A=>?_;refine aK ?_;exact rtC
theorem cOG (c:Int):Con prog 170 [aB c] (aD (decide (0<=c))):=by refine Con.oc func170 fun C o A=>?_;refine aK ?_;exact rtC
def twoT:List (ByteArray×AV):=[
 (⟨#[43]⟩,aOP 154 155),(⟨#[45]⟩,aOP 156 157),(⟨#[42]⟩,aOP 158 159),(⟨#[47]⟩,aOP 160 161),(⟨#[37]⟩,aOP 162 163),
 (⟨#[61,61]⟩,aHG 165),(⟨#[33,61]⟩,aHG 166),(⟨#[60]⟩,aHG 167),(⟨#[60,61]⟩,aHG 168),(⟨#[62]⟩,aHG 169),(⟨#[62,61]⟩,aHG 170),(⟨#[43,43]⟩,fnA 171)]
def aGI:List Value:=twoT.map fun p=>Value.string p.1
def aPU:List AV:=twoT.map (·.2)
def bFU:AV:=.rmap aGI aPU
theorem bCP:Con prog 114 [] bFU:=by have A:=tO 154 155;have D:=tO 156 157;have E:=tO 158 159;have G:=tO 160 161;have I:=tO 162 163;have o1:=wS 165;have o2:=wS 166;have o3:=wS 167;have o4:=wS 168;have o5:=wS 169;have J:=wS 170;refine Con.oc func114 fun C L M=>?_;refine aA ?_;refine goX [{r:=aOP 154 155},{r:=aOP 156 157},{r:=aOP 158 159},{r:=aOP 160 161},{r:=aOP 162 163},{r:=aHG 165},{r:=aHG 166},{r:=aHG 167},{r:=aHG 168},{r:=aHG 169},{r:=aHG 170}] fun K o=>?_;simp[aOP,aHG,aWJ,fnA,fQ,dR,cW];refine ck o ?_;refine .re ?_;exact .mapr rfl (RsvL.closed rfl)
theorem aBA {s:ByteArray} (h:uV s=true):s=⟨#[43]⟩\/s=⟨#[45]⟩\/s=⟨#[42]⟩\/s=⟨#[47]⟩\/s=⟨#[37]⟩\/s=⟨#[61,61]⟩\/s=⟨#[33,61]⟩\/s=⟨#[60]⟩\/s=⟨#[60,61]⟩\/s=⟨#[62]⟩\/s=⟨#[62,61]⟩\/s=⟨#[43,43]⟩:=by simp only[uV,twos,List.any_cons,List.any_nil,Bool.or_false,Bool.or_eq_true,decide_eq_true_eq]at h;grind
theorem aZA (s:ByteArray):∀l:List (ByteArray×AV),eQ (.string s) (l.map fun p=>Value.string p.1) (l.map (·.2))=(l.find? fun p=>decide (s=p.1)).map (·.2)
 |[]=>rfl
 |p::l=>by
  have e:eQ (.string s) ((p::l).map fun p=>Value.string p.1) ((p::l).map (·.2))=if dR (.string s) (.string p.1)=true then some p.2 else eQ (.string s) (l.map fun p=>Value.string p.1) (l.map (·.2)):=rfl
  rw[e,aZA s l,List.find?_cons];grind [dR]
theorem bLG (s:ByteArray):eQ (.string s) aGI aPU=(twoT.find? fun p=>decide (s=p.1)).map (·.2):=aZA s twoT
theorem cAV {s:ByteArray} (h:uV s=true) (a b:ValD) (E:aY a<=549755813888) (G:aY b<=549755813888) (o:a.s.size<=4194304) (A:b.s.size<=4194304): (s=⟨#[43,43]⟩/\eQ (.string s) aGI aPU=some (fnA 171)/\Con prog 171 [aP a,aP b] (.tup [aP (aOI s a b).1,aB (aOI s a b).2]))\/ ∃g D,eQ (.string s) aGI aPU=some (.clo (.func g) D)/\g<YB/\aW D=true/\Con prog g (aP a::aP b::D) (.tup [aP (aOI s a b).1,aB (aOI s a b).2]):=by rw[bLG];rcases aBA h with rfl|rfl|rfl|rfl|rfl|rfl|rfl|rfl|rfl|rfl|rfl|rfl;{right;exact⟨_,_,rfl,by decide,rfl,aHO _ _ bKB uD a b (cLS _ _) (bPU _ _ o A) (by decide) (by decide)⟩};{right;exact⟨_,_,rfl,by decide,rfl,aHO _ _ aCZ bBZ a b (bBY _ _) (cPT _ _ o A) (by decide) (by decide)⟩};{right;exact⟨_,_,rfl,by decide,rfl,aHO _ _ bMW bCT a b (cJW _ _) (cPZ _ _ o A) (by decide) (by decide)⟩};{right;exact⟨_,_,rfl,by decide,rfl,aHO _ _ bOC bDZ a b (cKZ _ _) (cQE _ _ o A) (by decide) (by decide)⟩};{right;exact⟨_,_,rfl,by decide,rfl,aHO _ _ bMY bCU a b (cKB _ _) (cQB _ _ o A) (by decide) (by decide)⟩};{right;exact⟨_,_,rfl,by decide,rfl,aCG _ (fun c=>decide (c=0)) a b E G cOL (by decide)⟩};{right;exact⟨_,_,rfl,by decide,rfl,aCG _ (fun c=>!decide (c=0)) a b E G cOK (by decide)⟩};{right;exact⟨_,_,rfl,by decide,rfl,aCG _ (fun c=>decide (c<0)) a b E G cOJ (by decide)⟩};{right;exact⟨_,_,rfl,by decide,rfl,aCG _ (fun c=>decide (c<=0)) a b E G cOI (by decide)⟩};{right;exact⟨_,_,rfl,by decide,rfl,aCG _ (fun c=>decide (0<c)) a b E G cOH (by decide)⟩};{right;exact⟨_,_,rfl,by decide,rfl,aCG _ (fun c=>decide (0<=c)) a b E G cOG (by decide)⟩};{left;exact⟨rfl,rfl,bTT a b (by omega) (by omega)⟩}
end Go.Al
end
section
open Go Go.Aw Go.Proofs
open Tryz
namespace Go.Al
set_option maxRecDepth 100000
set_option maxRecDepth 20000
instance:FT prog f238:=.n
instance:FT prog f235:=.n
instance:FT prog f234:=.n
instance:FT prog f178:=.n
attribute [local simp] aP aV
theorem cFI (s:ByteArray) (a:ValD) (A:a.s.size<=4194304) (D: -9223372036854775808<=a.n) (h1:a.n<=9223372036854775807):Con prog 238 [aE s,aP a] (.tup [aP (bCQ s a).1,aB (bCQ s a).2]):=by
 have t1:=wG (decide (a.n=0));have t2:=bBY 0 a.n;have t3:=aBU (aCZ 0 a.n).1;have t4:=cPY a.s A;have t5:=aBU (a.s.size:Int);have t6:=cNP a.n D h1;have t7:=cHS a.s A;have t8:=aBU (oO a.s).1;unfold bCQ;rw[show ofI a.n=⟨(Lib.itoa a.n).toArray⟩from rfl];generalize aCZ 0 a.n=r at*;generalize qH a.s=q at*;generalize oO a.s=z at*;generalize(⟨(Lib.itoa a.n).toArray⟩:ByteArray)=w at*;refine Con.oc func238 fun C E G=>?_;refine aK ?_;refine .cnd (fun c1=>?_) (fun c1=>?_);{have c1:s=bGC/\a.kind=1:=(by simpa[bGC]using c1);rw[if_pos c1];refine goC [{r:=aP (pY (decide (a.n=0)))}] ?_;exact rtC};have c1:¬ (s=bGC/\a.kind=1):=by simpa[bGC]using c1
 rw[if_neg c1];refine aA ?_;refine .cnd (fun c2=>?_) (fun c2=>?_);{have c2:s=aGJ/\a.kind=2:=(by simpa[aGJ]using c2);rw[if_pos c2];refine goC [{r:=.tup [aB r.1,aB r.2]}] ?_;refine aA ?_;refine .cnd (fun d1=>?_) (fun d1=>?_);{have d1:¬r.2=0:=(by simpa using d1);rw[if_neg d1];refine aA ?_;refine .re ?_;exact dM _};have d1:r.2=0:=(by simpa using d1);rw[if_pos d1];refine goC [{r:=aP (cR r.1)}] ?_;exact rtC};have c2:¬ (s=aGJ/\a.kind=2):=by simpa[aGJ]using c2
 rw[if_neg c2];refine aA ?_;refine .cnd (fun c3=>?_) (fun c3=>?_);{have c3:s=aGJ/\a.kind=3:=(by simpa[aGJ]using c3);rw[if_pos c3];refine goC [{r:=.tup [aE q.1,aB q.2]}] ?_;refine aA ?_;refine .re ?_;exact aIL _};have c3:¬ (s=aGJ/\a.kind=3):=by simpa[aGJ]using c3
 rw[if_neg c3];refine aA ?_;refine .cnd (fun c4=>?_) (fun c4=>?_);{have c4:s=bBU/\a.kind=4:=(by simpa[bBU]using c4);rw[if_pos c4];refine goC [{r:=aP (cR a.s.size)}] ?_;exact rtC};have c4:¬ (s=bBU/\a.kind=4):=by simpa[bBU]using c4
 rw[if_neg c4];refine aA ?_;refine .cnd (fun c5=>?_) (fun c5=>?_);{have c5:s=bBW/\a.kind=2:=(by simpa[bBW]using c5);rw[if_pos c5];refine goC [{r:=aE w}] ?_;refine .re ?_;exact aIL _};have c5:¬ (s=bBW/\a.kind=2):=by simpa[bBW]using c5
 rw[if_neg c5];refine aA ?_;refine .cnd (fun o=>?_) (fun o=>?_);{have o:s=bBV/\a.kind=3:=(by simpa[bBV]using o);rw[if_pos o];refine goC [{r:=.tup [aB z.1,aB z.2]}] ?_;refine aA ?_;refine .cnd (fun d1=>?_) (fun d1=>?_);{have d1:¬z.2=0:=(by simpa using d1);rw[if_neg d1];refine aA ?_;refine .re ?_;exact dM 80};have d1:z.2=0:=(by simpa using d1);rw[if_pos d1];refine goC [{r:=aP (cR z.1)}] ?_;exact rtC};have o:¬ (s=bBV/\a.kind=3):=by simpa[bBV]using o
 rw[if_neg o];refine aA ?_;refine .re ?_;exact dM 70
theorem bWM (n:Nat):∀v:ValD,aY v<n->aY v<=1099511627776->Con prog 235 [aP v] (aB (lH v)):=by
 induction n with|zero=>intro v h;omega|succ n I=>
 intro v O S;have J:=cM v;have hlen:=bJ v.l;have hle:=uW v.l;rw[bNH];refine Con.oc func235 fun C U W=>?_;refine bQ ?_;refine .block<| .loopG (fun k:Nat=>{tm:=[(3,aB ((fS (v.l.take k)+1:Nat):Int)),(7,.rd 4 (v.l.map bA)),(8,aB v.l.length),(9,aB k)],hp:=[]}) (fun k=>k<=v.l.length) (fun k=>v.l.length-k) 0 (by omega) (by simp[fS]) (fun k hk=>?_);refine aA ?_;refine .seq<| .cnd (fun o=>?_) (fun A=>?_);{have o:k<v.l.length:=(by simpa using o);have hm:=List.getElem_mem o;have L:=bO hm;have Y:=I v.l[k] (by omega) (by omega);have D:=aWD v.l k o;have E:=uW (v.l.take (k+1));have M:=jS v.l (k+1);generalize fS (v.l.take k)=cur at*;rw[D]at E;have hw:IntKind.i64.wrap (((cur:Int)+1)+(lH v.l[k]:Int))=((cur+lH v.l[k]+1:Nat):Int):=(by rw[bH (by omega) (by omega)];omega);refine goX [] fun K G=>?_;simp[o];refine ck G ?_;refine goX [{r:=aB (lH v.l[k])}] fun K G=>?_;simp[o];refine ck G ?_;refine aA ?_;refine⟨k+1,by omega,by omega,?_⟩;rw[D];simp[aC k (by omega)]at hw|-;exact hw};have A:¬k<v.l.length:=by simpa using A
 refine .exit ?_;rw[List.take_of_length_le (show v.l.length<=k by omega)];refine aA ?_;exact rtC
def gJ (vs:List Bnd):AV:=.elt 3 [[.val (.pointer none),bP vs,bFU]] 0 0
def EvC (vs:List Bnd) (e:ExprD):Prop:=Con prog 119 [gJ vs,bG e] (.tup [aP (evV vs e).1,aB (evV vs e).2])
theorem bND (l:List iL) (k:Nat) (h:k<l.length) (o:∀r∈l.take k,r.2=0):fC l=if l[k].2=0 then(if(fC (l.drop (k+1))).2=0 then((l.take k).map (·.1)++l[k].1::(fC (l.drop (k+1))).1,0)else([],(fC (l.drop (k+1))).2))else([],l[k].2):=by induction l generalizing k with|nil=>simp at h|cons r l A=>cases k with|zero=>simp[fC]|succ k=>have D:r.2=0:=o r (by simp);have:=A k (by simpa using h) (fun q E=>o q (by simp[E]));simp only[fC,D,if_true,List.getElem_cons_succ,List.drop_succ_cons,List.take_succ_cons,List.map_cons];grind
theorem bWB (l:List iL) (o:∀r∈l,r.2=0):fC l=(l.map (·.1),0):=by induction l with|nil=>rfl|cons r l A=>simp_all [fC]
theorem bWA (l:List iL) (k:Nat) (h:k<l.length) (o:∀r∈l.take k,r.2=0) (hk:¬l[k].2=0):fC l=([],l[k].2):=by rw[bND l k h o,if_neg hk]
attribute [local simp] bG bK
def bCY (L:List iL) (k:Nat):List (List AV):=(L.take k).map fun r=>bA r.1
theorem cDR (L:List iL) (k:Nat) (h:k<=L.length):(bCY L k).length=k:=by simp[bCY];omega
theorem bVZ (L:List iL) (k:Nat) (h:k<L.length):bCY L (k+1)=bCY L k++[bA L[k].1]:=by grind [bCY,List.take_succ_eq_append_getElem]
theorem cDS (L:List iL) (k:Nat) (h:L.length<=k):bCY L k=(L.map (·.1)).map bA:=by simp_all [bCY,List.take_of_length_le,List.map_map]
theorem bVY (L:List iL):bCY L 0=[]:=rfl
theorem bAD (vs:List Bnd) (l:List ExprD) (hl:l.length<=1048576) (M:∀e∈l,EvC vs e):Con prog 234 [gJ vs,.rd 9 (l.map fM)] (.tup [.rd 4 ((fC (l.map (evV vs))).1.map bA),aB (fC (l.map (evV vs))).2]):=by
 obtain⟨L,O⟩:∃L,L=l.map (evV vs):=⟨_,rfl⟩;have Z:L.length=l.length:=by rw[O];simp
 rw[<-O];refine Con.oc func234 fun C hC hM=>?_;refine bQ ?_;refine .block<| .loopG (fun k:Nat=>{tm:=[(0,gJ vs),(6,.own 33 4 (bCY L k)),(11,.rd 9 (l.map fM)),(12,aB l.length),(13,aB k)],hp:=[]}) (fun k=>k<=l.length/\ ∀r∈L.take k,r.2=0) (fun k=>l.length-k) 0 ⟨by omega,by simp⟩ (by simp[gJ,bVY]) (fun k hk=>?_);obtain⟨aa,A⟩:=hk;refine aA ?_;refine .seq<| .cnd (fun o=>?_) (fun D=>?_);{have o:k<l.length:=(by simpa using o);have Y:=M l[k] (List.getElem_mem o);have S:L[k]'(by omega)=evV vs l[k]:=(by simp[O]);unfold EvC at Y;rw[<-S]at Y;have U:L.take (k+1)=L.take k++[L[k]'(by omega)]:=(by rw[List.take_succ_eq_append_getElem (by omega)]);have E:=bWA L k (by omega) A;have ab:=cDR L k (by omega);have I:=bVZ L k (by omega);generalize hr:L[k]'(by omega)=r at*;refine goX [] fun K W=>?_;simp[o];refine ck W ?_;refine goX [{r:=.tup [aP r.1,aB r.2]}] fun K W=>?_;simp[o,gJ];refine ck W ?_;refine aA ?_;refine .cnd (fun d1=>?_) (fun d1=>?_);{have d1:¬r.2=0:=(by simpa using d1);rw[E d1];refine aA ?_;refine .re ?_;exact .tup (.cons .nil (.cons (.closed rfl) .nil))};have d1:r.2=0:=(by simpa using d1);have hz:∀q∈L.take (k+1),q.2=0:=(by rw[U];intro q J;rcases List.mem_append.1 J with J|J;{exact A q J};{rw[List.mem_singleton.1 J];exact d1});refine aK ?_;refine⟨k+1,⟨by omega,hz⟩,by omega,?_⟩;rw[I];simp[aC k (by omega),gJ]};have D:¬k<l.length:=by simpa using D
 refine .exit ?_;rw[List.take_of_length_le (show L.length<=k by omega)]at A;rw[cDS L k (by omega),bWB L A];generalize L.map (·.1)=G;refine aA ?_;refine .re ?_;exact .tup (.cons .own (.cons (.closed rfl) .nil))
theorem aJV (vs:List Bnd) (e:ExprD) (o:EvC vs e):Con prog 178 [gJ vs,bG e] (.tup [aD (iS (evV vs e)).1,aB (iS (evV vs e)).2]):=by
 unfold EvC at o;unfold iS;generalize evV vs e=r at*;refine Con.oc func178 fun C D E=>?_;refine aA ?_;refine goX [{r:=.tup [aP r.1,aB r.2]}] fun K A=>?_;simp[gJ];refine ck A ?_;refine aA ?_;refine .cnd (fun d1=>?_) (fun d1=>?_);{have d1:¬r.2=0:=(by simpa using d1);rw[if_neg d1];refine aA ?_;exact rtC};have d1:r.2=0:=by simpa using d1
 rw[if_pos d1];refine aA ?_;refine .cnd (fun d2=>?_) (fun d2=>?_);{have d2:¬r.1.kind=1:=(by simpa using d2);rw[if_neg d2];refine aA ?_;exact rtC};have d2:r.1.kind=1:=by simpa using d2
 rw[if_pos d2];refine aA ?_;exact rtC
end Go.Al
end
