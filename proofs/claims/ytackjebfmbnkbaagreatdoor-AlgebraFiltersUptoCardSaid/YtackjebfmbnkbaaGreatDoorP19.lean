/- The order of values and rows, in plain words, aSx the program has it. -/
import Derived.Test.YtackjebfmbnkbaaGreatDoorP13
import Derived.Lib.BitFns
import Derived.Test.YtackjebfmbnkbaaGreatDoorP16
import Derived.Lib.IndexMore
import Derived.Test.YtackjebfmbnkbaaGreatDoorP15
import Derived.Test.YtackjebfmbnkbaaGreatDoorP18
import Derived.Test.YtackjebfmbnkbaaGreatDoorP07
import Derived.Test.YtackjebfmbnkbaaGreatDoorP11
import Derived.Shelf.SlSortCmp.NoneTotal
set_option linter.unusedSimpArgs false
set_option linter.unusedVariables false
set_option linter.unusedSectionVars false
section
namespace Go.Al
open Go.Aw Go
def ltB (s t:ByteArray):Bool:=Op.bytesLess s.toList t.toList
def dO (a b:Int):Int:=if a<b then-1 else if b<a then 1 else 0
def kU (s t:ByteArray):Int:=if ltB s t then-1 else if(!(ltB s t||s.toList==t.toList))then 1 else 0
def orI:List Int->Int
 |[]=>0
 |a::l=>if a=0 then orI l else a
def lV (s:ByteArray):Bool:=kZ s ⟨#[45]⟩
def aOV:Nat->ByteArray->ByteArray->Int
 |0,_,_=>0
 |n+1,a,b=>if lV a&&lV b then aOV n (b.extract 1 b.size) (a.extract 1 a.size)else if lV a then-1 else if lV b then 1 else orI [dO a.size b.size,kU a b]
mutual
def rN:ValD->ValD->Int
 |⟨k,n,s,l⟩,w=>if dO k w.kind≠0 then dO k w.kind else if k=3 then aOV (s.size+1) s w.s else if k=4 then kU s w.s else orI [dO n w.n,kU s w.s,fE l w.l]
def fE:List ValD->List ValD->Int
 |[],[]=>0
 |[],_::_=>-1
 |_::_,[]=>1
 |x::xs,y::o=>if rN x y=0 then fE xs o else rN x y
end
theorem bSB (v w:ValD):rN v w=if dO v.kind w.kind≠0 then dO v.kind w.kind else if v.kind=3 then aOV (v.s.size+1) v.s w.s else if v.kind=4 then kU v.s w.s else orI [dO v.n w.n,kU v.s w.s,fE v.l w.l]:=by obtain⟨k,n,s,l⟩:=v;rfl
def bJO (c:ValD->ValD->Int):List ValD->List ValD->Int
 |[],[]=>0
 |[],_::_=>-1
 |_::_,[]=>1
 |x::xs,y::o=>if c x y=0 then bJO c xs o else c x y
theorem bSC:∀l m:List ValD,bJO rN l m=fE l m
 |[],[]=>rfl|[],_::_=>rfl|_::_,[]=>rfl
 |x::xs,y::o=>by simp only[bJO,fE,bSC xs o]
theorem bYD (c:ValD->ValD->Int) (l m:List ValD) (k:Nat) (h1:k<l.length) (o:k<m.length):bJO c (l.drop k) (m.drop k)=if c l[k] m[k]=0 then bJO c (l.drop (k+1)) (m.drop (k+1))else c l[k] m[k]:=by rw[List.drop_eq_getElem_cons h1,List.drop_eq_getElem_cons o];rfl
def gG (l:List ValD):Bool:=l.all fun v=>decide (cF v=0)
def aAX (a b:Bool):Int:=if a=b then 0 else if a then-1 else 1
def cO (a b:List ValD):Int:=if gG a&&gG b then fE a b else aAX (gG a) (gG b)
def oQ (v w:ValD):Int:=cO [v] [w]
end Go.Al
end
section
namespace Go.Al
open Go.Aw Go
def trn (t c:Int):Int:=aVJ .u8 c t
def enc (t:Int) (l:List Int):List Int:=l.map (trn t)
@[simp] theorem cKV (t:Int) (l:List Int):(enc t l).length=l.length:=by simp[enc]
@[simp] theorem cKW (t:Int) (a b:List Int):enc t (a++b)=enc t a++enc t b:=by simp[enc]
@[simp] theorem cKU (t:Int):enc t []=[]:=rfl
def isB (c:Int):Prop:=0<=c/\c<256
def rX (l:List Int):Prop:=∀c∈l,isB c
theorem bQC:∀n:Fin 256,trn 0 (n.val:Int)=n.val/\trn 255 (n.val:Int)=255-n.val:=by decide+kernel
theorem cQP {c:Int} (h:isB c):trn 0 c=c:=by have:=(bQC ⟨c.toNat,by unfold isB at h;omega⟩).1;grind [isB]
theorem cIN {c:Int} (h:isB c):trn 255 c=255-c:=by have:=(bQC ⟨c.toNat,by unfold isB at h;omega⟩).2;grind [isB]
theorem bAF {l:List Int} (h:rX l):enc 0 l=l:=by
 unfold enc;conv=>rhs;rw[<-List.map_id l]
 exact List.map_congr_left fun c o=>cQP (h c o)
def kT (l:List Int):List Int:=l.map fun c=>255-c
theorem bRU {l:List Int} (h:rX l):enc 255 l=kT l:=List.map_congr_left fun c o=>cIN (h c o)
theorem xO {a b:List Int} (o:rX a) (A:rX b):rX (a++b):=fun c D=>(List.mem_append.1 D).elim (o c) (A c)
theorem gR {c:Int} {b:List Int} (o:isB c) (A:rX b):rX (c::b):=fun x D=>(List.mem_cons.1 D).elim (fun e=>e▸o) (A x)
theorem mF:rX []:=fun c o=>by cases o
theorem bBC {l:List Int} (h:rX l):rX (kT l):=by intro c o;simp only[kT,List.mem_map]at o;obtain⟨d,A,rfl⟩:=o;have:=h d A;grind [isB]
def aIN:Nat->Nat->List Int
 |_,0=>[]
 |u,k+1=>aIN (u/256) k++[((u% 256:Nat):Int)]
theorem bJH:∀ (k u:Nat),(aIN u k).length=k
 |0,_=>rfl
 |k+1,u=>by simp[aIN,bJH k]
theorem bAN:∀ (k u:Nat),rX (aIN u k)|0,_=>mF|k+1,u=>xO (bAN k _) (gR (by grind [isB]) mF)
theorem bAM:∀ (k u:Nat),aIN u (k+1)=((u/256 ^ k% 256:Nat):Int)::aIN u k
 |0,u=>by simp[aIN]
 |k+1,u=>by rw[aIN,bAM k (u/256)];rw[List.cons_append];congr 2;rw[Nat.div_div_eq_div_mul,Nat.pow_succ,Nat.mul_comm]
def nb (u:Nat):Nat:=(Lib.bitLen u+7)/8
theorem cGK (u:Nat) (o:0<u) (h:u<256):(Lib.bitLen u+7)/8=1:=by
 have:∀n:Fin 256,0<n.val->(Lib.bitLen n.val+7)/8=1:=by decide+kernel
 exact this ⟨u,h⟩ o
theorem cJQ:nb 0=0:=by decide
theorem cJS (u:Nat) (A:0<u) (h:u<18446744073709551616):nb u=nb (u/256)+1:=by unfold nb;by_cases o:u<256;{rw[cGK u A o,Nat.div_eq_of_lt o];decide};grind [Lib.bitLen_shift8]
theorem aYK (u:Nat) (h:u<18446744073709551616):nb u<=8:=by have:=Lib.bitLen_le u 64 (Nat.le_refl _) (by simpa using h);grind [nb]
def bEA (u:Nat):List Int:=aIN u (nb u)
def rC (first:Int) (u:Nat):List Int:=(first+nb u)::bEA u
def zW (n:Int):List Int:=if n<0 then kT (rC 128 (-n-1).toNat)else rC 128 n.toNat
theorem aCJ {first:Int} {u:Nat} (o:0<=first) (h1:first<=128) (h:u<18446744073709551616):rX (rC first u):=by have:=aYK u h;exact gR (by grind [isB]) (bAN _ _)
theorem aHN (first:Int) (u:Nat) (h:u<18446744073709551616):(rC first u).length<=9:=by grind [aYK,rC,bEA,List.length_cons,bJH]
theorem aZO (l:List Int):(kT l).length=l.length:=by simp[kT]
theorem cCV (n:Int) (o: -9223372036854775808<=n) (h1:n<=9223372036854775807):(zW n).length<=9:=by grind [zW,aZO,aHN]
theorem bVN (n:Int) (o: -9223372036854775808<=n) (h1:n<=9223372036854775807):rX (zW n):=by grind [zW,bBC,aCJ]
def byL (s:ByteArray):List Int:=(bl s).map fun b=>(b.toNat:Int)
theorem nL (s:ByteArray):(byL s).length=s.size:=by simp[byL,dQ]
theorem bJU (s:ByteArray):rX (byL s):=by intro c o;simp only[byL,List.mem_map]at o;obtain⟨b,_,rfl⟩:=o;have:=b.toNat_lt;grind [isB]
theorem aIW (s:ByteArray) (k:Nat) (h:k<s.size):(byL s).drop k=chr s k::(byL s).drop (k+1):=by simp_all [byL,nL,List.drop_eq_getElem_cons,aFU,dQ]
theorem cGG (s:ByteArray) (k:Nat) (h:k<s.size):(byL s).take (k+1)=(byL s).take k++[chr s k]:=by simp_all [byL,nL,List.take_succ_eq_append_getElem,aFU,dQ]
def bDV (c:Int):List Int:=if c=0 then[0,255]else[c]
def rW (l:List Int):List Int:=l.flatMap bDV
theorem cFL (a b:List Int):rW (a++b)=rW a++rW b:=by simp[rW]
theorem bJB (l:List Int):(rW l).length<=2*l.length:=by induction l with|nil=>simp[rW]|cons c l o=>grind [rW,List.length_append,List.length_cons,bDV]
theorem bXL {l:List Int} (h:rX l):rX (rW l):=by intro c o;simp only[rW,List.mem_flatMap]at o;obtain⟨d,A,o⟩:=o;have:=h d A;grind [bDV,isB]
def uG (s:ByteArray):List Int:=rW (byL s)++[0,0]
theorem bFT (s:ByteArray):(uG s).length<=2*s.size+2:=by grind [bJB,byL,nL,uG]
theorem bTN (s:ByteArray):rX (uG s):=xO (bXL (bJU s)) (gR (by simp[isB]) (gR (by simp[isB]) mF))
def aOU (s:ByteArray):List Int:=128::(rC 0 s.size++byL s)
def aBP (s:ByteArray):List Int:=if chr s 0=45 then kT (aOU (s.extract 1 s.size))else aOU s
theorem aLY (s:ByteArray) (h:s.size<18446744073709551616):rX (aOU s):=gR (by simp[isB]) (xO (aCJ (by omega) (by omega) h) (bJU s))
theorem cGP (s:ByteArray) (h:s.size<18446744073709551616):(aOU s).length<=10+s.size:=by grind [aHN,aOU,nL]
theorem aCP (s:ByteArray):(s.extract 1 s.size).size<=s.size:=by simp
theorem cGQ (s:ByteArray) (h:s.size<18446744073709551616):(aBP s).length<=10+s.size:=by grind [aBP,aCP,aZO,cGP]
theorem bYP (s:ByteArray) (h:s.size<18446744073709551616):rX (aBP s):=by grind [aBP,aCP,bBC,aLY]
mutual
def rng:ValD->Prop
 | .mk _ n _ l=>(-9223372036854775808<=n/\n<=9223372036854775807)/\iM l
def iM:List ValD->Prop
 |[]=>True
 |v::l=>rng v/\iM l
end
theorem aQY (v:ValD):rng v=((-9223372036854775808<=v.n/\v.n<=9223372036854775807)/\iM v.l):=by cases v;rfl
theorem wO {v:ValD}:∀ {l:List ValD},v∈l->iM l->rng v|x::l,h,o=>by simp only[iM]at o;rcases List.mem_cons.1 h with rfl|h;{grind};{exact wO h o.2}
mutual
def sV:ValD->List Int
 | .mk kind n s l=>kind::(if kind=1 then[n]else if kind=2 then zW n else if kind=3 then aBP s else if kind=4 then uG s else if kind=5 then fY l++[0]else uG s++(fY l++[0]))
def fY:List ValD->List Int
 |[]=>[]
 |v::l=>1::(sV v++fY l)
end
theorem bPZ (v:ValD):sV v=v.kind::(if v.kind=1 then[v.n]else if v.kind=2 then zW v.n else if v.kind=3 then aBP v.s else if v.kind=4 then uG v.s else if v.kind=5 then fY v.l++[0]else uG v.s++(fY v.l++[0])):=by cases v;rfl
theorem bTL (a b:List ValD):fY (a++b)=fY a++fY b:=by induction a with|nil=>rfl|cons x a o=>simp[fY,o]
theorem bLC (l:List ValD) (k:Nat) (h:k<l.length):fY (l.take (k+1))=fY (l.take k)++(1::sV l[k]):=by grind [List.take_succ_eq_append_getElem,bTL,fY]
mutual
theorem bFO:∀v:ValD,rng v->aY v<=1099511627776->(sV v).length+1<=12*aY v| .mk kind n s l,o,A=>by simp only[rng]at o;simp only[aY]at A|-;have h1:=aJT l o.2 (by omega);grind [cCV,cGQ,bFT,sV,List.length_cons]
theorem aJT:∀l:List ValD,iM l->aJ l<=1099511627776->(fY l).length<=12*aJ l
 |[],_,_=>by simp[fY]
 |v::l,o,A=>by simp only[iM]at o;simp only[aJ]at A|-;have h1:=bFO v o.1 (by omega);have D:=aJT l o.2 (by omega);grind [fY,List.length_cons,List.length_append]
end
theorem sQ {v:ValD} (h:gW v=true):1<=v.kind/\v.kind<=6:=by rw[qP,Bool.and_eq_true]at h;have h:=h.1;unfold bU at h;grind
theorem aZN {v:ValD} (h:gW v=true) (hk:v.kind=1):v.n=0\/v.n=1:=by rw[qP,Bool.and_eq_true]at h;simp_all [bU,if_pos,Bool.and_eq_true,Bool.or_eq_true,decide_eq_true_eq]
theorem aBD {v:ValD} (h:gW v=true) (hk:v.kind=3):fJ v.s=true:=by simp_all [qP,Bool.and_eq_true,bU,if_neg,if_pos]
theorem xC {v:ValD}:∀ {l:List ValD},v∈l->gB l=true->gW v=true|x::l,h,o=>by simp only[gB,Bool.and_eq_true]at o;rcases List.mem_cons.1 h with rfl|h;{grind};{exact xC h o.2}
mutual
theorem aXC:∀v:ValD,gW v=true->rng v->aY v<=1099511627776->rX (sV v)| .mk kind n s l,o,A,E=>by have hk:=sQ o;have D:=aZN o;simp only[ValD.kind,ValD.n]at hk D;simp only[gW,Bool.and_eq_true]at o;simp only[rng]at A;simp only[aY]at E;have h1:=aPS l o.2 A.2 (by omega);have G:rX [(0:Int)]:=gR (by unfold isB;omega) mF;simp only[sV];refine gR (by unfold isB;omega) ?_;split;{rename_i e;have:=D e;exact gR (by unfold isB;omega) mF};grind [bVN,bYP,bTN,xO]
theorem aPS:∀l:List ValD,gB l=true->iM l->aJ l<=1099511627776->rX (fY l)|[],_,_,_=>mF|v::l,o,A,D=>by simp only[gB,Bool.and_eq_true]at o;simp only[iM]at A;simp only[aJ]at D;exact gR (by simp[isB]) (xO (aXC v o.1 A.1 (by omega)) (aPS l o.2 A.2 (by omega)))
end
theorem gY {v:ValD} (h:cF v=0):gW v=true:=by grind [cF]
end Go.Al
end
section
namespace Go.Al
open Go.Aw Go
def yT (l:List ValD):List Int:=l.flatMap sV
def hZ (l:List ValD):ByteArray:=strOfNums (yT l)
theorem bWD (l:List ValD) (k:Nat) (h:k<l.length):yT (l.take (k+1))=yT (l.take k)++sV l[k]:=by grind [yT,List.take_succ_eq_append_getElem,List.flatMap_singleton]
theorem bBP (v:ValD):sV v≠[]:=by simp[bPZ]
theorem cED (l:List ValD) (o:iM l) (A:aJ l<=1099511627776):(yT l).length<=12*aJ l:=by induction l with|nil=>simp[yT,aJ]|cons v l D=>simp only[iM]at o;simp only[aJ]at A|-;have h1:=bFO v o.1 (by omega);grind [yT,List.length_append]
abbrev Cnt:=List (ByteArray×Int)
def cks (l:Cnt):List Value:=l.map fun p=>Value.string p.1
def cvs (l:Cnt):List AV:=l.map fun p=>.val (.int .i64 p.2)
def tZ (s:ByteArray) (l:Cnt):Option Int:=(l.find? fun p=>decide (s=p.1)).map (·.2)
def vW (s:ByteArray) (n:Int):Cnt->Cnt
 |[]=>[(s,n)]
 |p::l=>if s=p.1 then(s,n)::l else p::vW s n l
theorem bDE (s:ByteArray):∀l:Cnt,eQ (.string s) (cks l) (cvs l)=(tZ s l).map fun n=>.val (.int .i64 n)
 |[]=>rfl
 |p::l=>by
  have e:eQ (.string s) (cks (p::l)) (cvs (p::l))=if dR (.string s) (.string p.1)=true then some (.val (.int .i64 p.2))else eQ (.string s) (cks l) (cvs l):=rfl
  rw[e,bDE s l];grind [dR,tZ]
theorem bRJ (s:ByteArray) (n:Int):∀l:Cnt,fQ (.string s) (.val (.int .i64 n)) (cks l) (cvs l)=(cks (vW s n l),cvs (vW s n l))
 |[]=>rfl
 |p::l=>by
  have e:fQ (.string s) (.val (.int .i64 n)) (cks (p::l)) (cvs (p::l))=if dR (.string s) (.string p.1)=true then(.string s::cks l,.val (.int .i64 n)::cvs l)else let r:=fQ (.string s) (.val (.int .i64 n)) (cks l) (cvs l);(.string p.1::r.1,.val (.int .i64 p.2)::r.2):=rfl
  rw[e,bRJ s n l];grind [dR,vW,cks,cvs]
theorem aCT (s:ByteArray) (n:Int):∀l:Cnt,tZ s (vW s n l)=some n
 |[]=>by simp[vW,tZ]
 |p::l=>by have o:=aCT s n l;simp only[vW];by_cases h:s=p.1;{simp[h,tZ]};simp_all [if_false,tZ,List.find?_cons,decide_false]
theorem bJN (s:ByteArray) (n:Int):∀ (l:Cnt) (p:ByteArray×Int),p∈vW s n l->p=(s,n)\/p∈l
 |[],p,h=>by simp_all [vW]
 |q::l,p,h=>by simp only[vW]at h;split at h;{grind};{rcases List.mem_cons.1 h with h|h;{simp[*]};{rcases bJN s n l p h with h|h;{exact .inl h};simp[*]}}
theorem aUF {s:ByteArray} {n:Int} {l:Cnt} (h:tZ s l=some n):(s,n)∈l:=by obtain⟨p,hp,o⟩:=Option.map_eq_some_iff.1 h;grind
theorem bJQ (s:ByteArray) (l:Cnt):∀a∈cks l,cW (.string s) a=true:=by intro a o;obtain⟨p,_,rfl⟩:=List.mem_map.1 o;rfl
theorem bOD (l:Cnt) (ids:List Nat):bD ids (cvs l)=true:=by simp[cvs,bD,within]
abbrev Rows:=List (List ValD)
def aCA (st:Cnt×Rows) (r:List ValD):Cnt×Rows:=
 let c:=(tZ (hZ r) st.1).getD 0+1
 (vW (hZ r) c st.1,if c=1 then st.2++[r]else st.2)
def tF (l:Rows):Cnt×Rows:=l.foldl aCA ([],[])
def rU (l:Rows):Rows:=(tF l).2
theorem aXQ (l:Rows) (k:Nat) (h:k<l.length):tF (l.take (k+1))=aCA (tF (l.take k)) l[k]:=by grind [tF,List.take_succ_eq_append_getElem]
theorem bGQ (l:Rows) (k:Nat) (h:k<=l.length):(∀p∈(tF (l.take k)).1,1<=p.2/\p.2<=k)/\(tF (l.take k)).2.length<=k:=by induction k with|zero=>simp[tF]|succ k o=>obtain⟨h1,D⟩:=o (by omega);rw[aXQ l k (by omega)];generalize tF (l.take k)=st at*;refine⟨fun p hp=>?_,?_⟩;{rcases bJN _ _ _ _ hp with rfl|hp;{simp only;cases A:tZ (hZ l[k]) st.1 with|none=>simp;omega|some n=>have:=h1 _ (aUF A);simp at this|-;omega};{have:=h1 p hp;omega}};grind [aCA]
def v0:ValD:=⟨0,0,⟨#[]⟩,[]⟩
def gH (r:List ValD) (l:List Nat):List ValD:=l.map fun i=>r.getD i v0
def rsize (l:Rows):Nat:=(l.map fun r=>aJ r+1).sum
end Go.Al
end
section
namespace Go.Al
open Go.Aw Go
theorem bEH (R sub:List UInt8):Lib.contains R sub=true↔ ∃pre post,R=pre++(sub++post):=by unfold Lib.contains;rw[decide_eq_true_eq];rcases Lib.index_spec R sub with⟨h1,o⟩|⟨i,h1,o,A⟩;{constructor;{omega};{rintro⟨pre,post,rfl⟩;have:=o pre.length (by simp);grind [Lib.occAt,List.isPrefixOf_iff_prefix]}};{constructor;{intro _;have D:sub.isPrefixOf (R.drop i)=true:=(by first|exact A.1|exact A);obtain⟨post,hp⟩:=List.isPrefixOf_iff_prefix.1 D;exact⟨R.take i,post,by rw[hp,List.take_append_drop]⟩};omega}
theorem cCY {s:ByteArray} (h:dE iG s 0=true):(32:UInt8)∉bl s:=by intro hm;unfold dE at h;rw[List.drop_zero,List.all_eq_true]at h;have:=h 32 hm;revert this;decide
theorem bCI (s:ByteArray):aGY s=true↔bl s∈words.map bl:=by simp only[aGY,List.any_eq_true,decide_eq_true_eq,List.mem_map];grind [vZ]
theorem bZW:(words.all fun w=>Lib.contains (bl aQA) (32::(bl w++[32])))=true:=by decide+kernel
theorem aWI (s:ByteArray) (D:0<s.size) (h:dE iG s 0=true):Lib.contains (bl aQA) (32::(bl s++[32]))=aGY s:=by rw[Bool.eq_iff_iff,bCI];constructor;{intro A;obtain⟨pre,post,he⟩:=(bEH _ _).1 A;have hm:=bNU pre (bl s) post (bl aQA) (cCY h) (by rw[he];simp);rw[bIW]at hm;have o:bl s≠[]:=(by intro e;have:=dQ s;rw[e]at this;simp at this;omega);simpa[o]using hm};grind [List.all_eq_true,bZW]
theorem bYL (s:ByteArray):bl (⟨#[32]⟩++s++⟨#[32]⟩)=32::(bl s++[32]):=by rfl
def aMV (s:ByteArray):Bool:=dE iG s 0&&decide (s.size<=32)
theorem bMV (s:ByteArray):(!decide (s=⟨#[]⟩)&&jQ (chr s 0)&&aMV s&& !Lib.contains (bl aQA) (bl (⟨#[32]⟩++s++⟨#[32]⟩)))=nameR s:=by unfold nameR oS aMV;rw[bYL];by_cases o:s=⟨#[]⟩;{grind};{cases h1:dE iG s 0;{simp};{rw[aWI s (lQ o) h1];grind}}
theorem cAP (s:ByteArray):(!decide (s=⟨#[]⟩)&&upB (chr s 0)&&aMV s)=varB s:=by unfold varB aMV;grind
end Go.Al
end
section
open Go Go.Aw Go.Proofs
namespace Go.Al
set_option maxRecDepth 100000
attribute [local simp] aP aV bG bK aR lL aZ
def zQ (e:ExprD):Blk:=.cells 35 [dC e.kind,aB e.line,aB e.col,aE e.name,dC e.v.kind,aB e.v.n,aE e.v.s,.rd 4 (e.v.l.map bA),.rd 9 (e.args.map fM)]
attribute [local simp] zQ
theorem cAQ {s:ByteArray} (h:varB s=true):0<s.size:=by simp_all [varB,Bool.and_eq_true,Bool.not_eq_true',decide_eq_false_iff_not,lQ]
end Go.Al
end
section
open Go Go.Aw Go.Proofs
namespace Go.Al
set_option maxRecDepth 100000
attribute [local simp] aP aV bG bK zQ
@[simp] theorem len0 (n:Nat):((n:Int)=0)=(n=0):=propext (by omega)
@[simp] theorem le16 (n:Nat):((n:Int)<=16)=(n<=16):=propext (by omega)
@[simp] theorem le8 (n:Nat):((n:Int)<=8)=(n<=8):=propext (by omega)
@[simp] theorem eq3 (n:Nat):((n:Int)=3)=(n=3):=propext (by omega)
end Go.Al
end
section
namespace Go.Al
open Go.Aw Go
abbrev Bnd:=ByteArray×ValD
def iI (b:Bnd):List AV:=[aE b.1,dC b.2.kind,aB b.2.n,aE b.2.s,.rd 4 (b.2.l.map bA)]
def iT (l:List Bnd):List (List AV):=l.map iI
def bP (l:List Bnd):AV:=.rd 5 (iT l)
@[simp] theorem cRT (l:List Bnd):(iT l).length=l.length:=by simp[iT]
def gF (s:ByteArray) (l:List Bnd):Option Bnd:=l.find? fun b=>decide (b.1=s)
def wF (p:ExprD) (v:ValD):Bool:=decide (p.kind=4/\ ¬v.kind=5)||decide (p.kind=5/\(¬v.kind=6\/ ¬v.s=p.name))||decide (¬p.args.length=v.l.length)
mutual
def dY:ExprD->ValD->List Bnd->List Bnd×Bool
 | .mk kind line col name o args,v,l=>
  if kind=3 then(l,true)
  else if kind=1 then(l,decide (oQ o v=0))
  else if kind=2 then(match gF name l with
   |some b=>(l,decide (oQ b.2 v=0))
   |none=>(l++[(name,v)],true))
  else if wF (.mk kind line col name o args) v=true then([],false)
  else dG args v.l l
def dG:List ExprD->List ValD->List Bnd->List Bnd×Bool
 |[],_,l=>(l,true)
 |_::_,[],_=>([],false)
 |a::o,x::xs,l=>if(dY a x l).2=true then dG o xs (dY a x l).1 else([],false)
end
theorem bVX (p:ExprD) (v:ValD) (l:List Bnd):dY p v l=if p.kind=3 then(l,true)else if p.kind=1 then(l,decide (oQ p.v v=0))else if p.kind=2 then(match gF p.name l with
  |some b=>(l,decide (oQ b.2 v=0))
  |none=>(l++[(p.name,v)],true))else if wF p v=true then([],false)else dG p.args v.l l:=by
 obtain⟨kind,line,col,name,o,args⟩:=p
 rfl
theorem bCX (o:List ExprD) (xs:List ValD) (l:List Bnd) (k:Nat) (h1:k<o.length) (A:k<xs.length):dG (o.drop k) (xs.drop k) l=if(dY o[k] xs[k] l).2=true then dG (o.drop (k+1)) (xs.drop (k+1)) (dY o[k] xs[k] l).1 else([],false):=by grind [List.drop_eq_getElem_cons,dG]
def aDB (M:Nat) (l:List Bnd):Prop:=∀b∈l,aY b.2<=M
theorem sR {s:ByteArray} {l:List Bnd} {b:Bnd} (h:gF s l=some b):b∈l/\b.1=s:=⟨List.mem_of_find?_eq_some h,by simpa using List.find?_some h⟩
mutual
theorem aKY:∀ (p:ExprD) (v:ValD) (l:List Bnd) (M:Nat),aY v<=M->aDB M l->aDB M (dY p v l).1/\(dY p v l).1.length<=l.length+bI p| .mk kind line col name D args,v,l,M,E,A=>by have G:=aSF args v.l l M (by have:=cM v;omega) A;have he:=fL (.mk kind line col name D args);simp only[ExprD.args,ExprD.name,ExprD.v]at he;unfold dY;split;{exact⟨A,by simp⟩};split;{exact⟨A,by simp⟩};split;{split;{exact⟨A,by simp⟩};{refine⟨fun b o=>?_,by simp;omega⟩;rcases List.mem_append.1 o with o|o;{exact A b o};{simp at o;subst o;exact E}}};split;{exact⟨fun b o=>by simp at o,by simp⟩};grind
theorem aSF:∀ (o:List ExprD) (xs:List ValD) (l:List Bnd) (M:Nat),aJ xs<=M->aDB M l->aDB M (dG o xs l).1/\(dG o xs l).1.length<=l.length+aL o
 |[],_,l,M,_,A=>by simp_all [dG,aL]
 |_::_,[],l,M,_,A=>by simp only[dG];exact⟨fun b D=>by grind,by simp⟩
 |a::o,x::xs,l,M,E,A=>by simp only[aJ]at E;have h1:=aKY a x l M (by omega) A;have G:=aSF o xs (dY a x l).1 M (by omega) h1.1;simp only[dG,aL];split;{grind};{exact⟨fun b D=>by grind,by simp⟩}
end
end Go.Al
namespace Go.Al
theorem bOM (s:ByteArray) (l:List Bnd) (k:Nat) (h:k<l.length):gF s (l.drop k)=if l[k].1=s then some l[k]else gF s (l.drop (k+1)):=by grind [List.drop_eq_getElem_cons,gF]
end Go.Al
namespace Go.Al
def patB (p:ExprD) (o:Bool) (d:Int):Bool:=decide (d<=64)&&o
def fN (pat:ExprD->Bool) (p:ExprD) (v:ValD) (l:List Bnd):List Bnd×Bool:=
 if pat p=true/\cF v=0/\(dY p v l).2=true then((dY p v l).1,true)else([],false)
def cH (pat:ExprD->Bool):List ExprD->List ValD->List Bnd->List Bnd×Bool
 |[],_,l=>(l,true)
 |_::_,[],_=>([],false)
 |a::o,x::xs,l=>if(fN pat a x l).2=true then cH pat o xs (fN pat a x l).1 else([],false)
def bR (pat:ExprD->Bool) (o:List ExprD) (xs:List ValD) (l:List Bnd):List Bnd×Bool:=if o.length=xs.length then cH pat o xs l else([],false)
theorem aVY (pat:ExprD->Bool) (o:List ExprD) (xs:List ValD) (l:List Bnd) (k:Nat) (h1:k<o.length) (A:k<xs.length):cH pat (o.drop k) (xs.drop k) l=if(fN pat o[k] xs[k] l).2=true then cH pat (o.drop (k+1)) (xs.drop (k+1)) (fN pat o[k] xs[k] l).1 else([],false):=by grind [List.drop_eq_getElem_cons,cH]
theorem bBI (pat:ExprD->Bool) (p:ExprD) (v:ValD) (l:List Bnd) (M:Nat) (o:aY v<=M) (A:aDB M l):aDB M (fN pat p v l).1/\(fN pat p v l).1.length<=l.length+bI p:=by unfold fN;split;{grind [aKY]};{exact⟨fun b D=>by grind,by simp⟩}
end Go.Al
end
section
namespace Go.Al
open Go.Aw Go
def fG (s:ByteArray):ByteArray:=dP s tMinus
def bEP (s d:ByteArray):Bool:=decide (d=⟨#[]⟩)||(decide (chr d 0=48)&& !decide (s=⟨#[48]⟩))
def cX (s:ByteArray):Int:=if bEP s (fG s)=true then 4 else if dE nI (fG s) 0=true then(if 200<(fG s).size then 80 else 0)else 4
def pV (l:List Int):Nat->Nat
 |0=>0
 |n+1=>if l.getD n 0=0 then pV l n else n+1
def dH (l:List Int):List Int:=l.take (pV l l.length)
theorem aPV (l:List Int):∀n,pV l n<=n
 |0=>Nat.le_refl _
 |n+1=>by unfold pV;split;have:=aPV l n;omega;omega
def aOH (d:ByteArray):Nat->Nat->Int->Int
 |0,_,n=>n
 |c+1,i,n=>aOH d c (i+1) (10*n+(chr d i-48))
def gV (d:ByteArray):Nat->Nat->List Int
 |0,_=>[]
 |m+1,e=>if e=0 then[]else aOH d (e-(e-9)) (e-9) 0::gV d m (e-9)
structure nJ where
 neg:Bool
 parts:List Int
def ofB (s:ByteArray):nJ:=⟨decide ((fG s).size<s.size),dH (gV (fG s) (fG s).size (fG s).size)⟩
theorem aRN (d:ByteArray):∀m e,(gV d m e).length<=m
 |0,_=>by simp[gV]
 |m+1,e=>by unfold gV;split;{simp};{have:=aRN d m (e-9);grind}
abbrev w64 (n:Int):Int:=IntKind.i64.wrap n
def jP (l:List Int) (i:Nat) (n:Int):Int:=if i<l.length then w64 (n+l.getD i 0)else n
def vJ (n:Int):Int:=n.tmod 1000000000
def aAL (n:Int):Int:=w64 (n.tdiv 1000000000)
def iN (a b:List Int):Nat->List Int×Int
 |0=>([],0)
 |i+1=>((iN a b i).1++[vJ (jP b i (jP a i (iN a b i).2))],aAL (jP b i (jP a i (iN a b i).2)))
def aNA (a b:List Int):List Int:=dH (iN a b (max a.length b.length+1)).1
theorem aKP (a b:List Int):∀i,(iN a b i).1.length=i
 |0=>rfl
 |i+1=>by simp[iN,aKP a b i]
end Go.Al
end
section
namespace Go.Aw
variable [GL]
variable {P:Program} {C:Ctx} {V:View} {a:Act} {w:World} {fz:Fz} {ρ:Ren}
open Classical in
noncomputable def aIE (fz:Fz) (ρ:Ren) (A:List Nat) (w:World):Fz:=
 {cell:=fun c o=>if ∃b,A.contains b=true/\ρ b=some c then w.cell? ⟨c,o,none⟩else fz.cell c o,obj:=fun c=>if ∃b,A.contains b=true/\ρ b=some c then w.heap[c]? else fz.obj c}
def FV (keep o:List Nat) (g:Nat->Option Blk) (x y:AV):Prop:=(x=y/\within keep x=true)\/(aG y=false/\((within keep x=true/\Wk x y)\/(within o x=true/\ ∃z,Rsv g x z/\Wk z y)))
inductive FVL (keep Bs:List Nat) (g:Nat->Option Blk):List AV->List AV->Prop
 |nil:FVL keep Bs g [] []
 |cons {x y:AV} {l l':List AV}:FV keep Bs g x y->FVL keep Bs g l l'->FVL keep Bs g (x::l) (y::l')
def FB (keep A:List Nat) (g:Nat->Option Blk):Blk->Blk->Prop
 | .cells e cs,.cells D cs'=>e=D/\FVL keep A g cs cs'
 | .map ks vs,.map ks' vs'=>ks=ks'/\FVL keep A g vs vs'
 | .mapd ks vs,.mapd ks' vs'=>ks=ks'/\FVL keep A g vs vs'
 | .hid l o,.hid E G=>l=E/\o=G
 |_,_=>False
theorem FVL.refl {keep o:List Nat} {g:Nat->Option Blk}:∀ {l:List AV},bD keep l=true->FVL keep o g l l
 |[],_=>.nil
 |x::l,h=>by simp only[bD,Bool.and_eq_true]at h;exact .cons (.inl ⟨rfl,h.1⟩) (FVL.refl h.2)
theorem FVL.set {keep o:List Nat} {g:Nat->Option Blk} {x y:AV} (D:FV keep o g x y):∀ {l E:List AV} (i:Nat),FVL keep o g l E->FVL keep o g (l.set i x) (E.set i y)
 |_,_,_,.nil=>by simp;exact .nil
 |_,_,0,.cons _ A=>.cons D A|_,_,i+1,.cons h A=>.cons h (FVL.set D i A)
theorem FVL.getD {keep o:List Nat} {g:Nat->Option Blk}:∀ {l A:List AV},FVL keep o g l A-> ∀j,FV keep o g (l.getD j .unk) (A.getD j .unk)
 |_,_,.nil,_=>.inl ⟨rfl,by rfl⟩|_,_,.cons h _,0=>h
 |_,_,.cons _ D,j+1=>by simpa using D.getD j
theorem FB.at {keep A:List Nat} {g:Nat->Option Blk} {k o:Blk} (h:FB keep A g k o) (j:Nat):FV keep A g (k.at j) (o.at j):=by
 cases k<;>cases o<;>simp only[FB]at h;all_goals first
  |exact h.2.getD j
  |exact .inl ⟨rfl,by rfl⟩
theorem SimE.freeze (h:SimE C V a w fz ρ) (keep G:List Nat) {V':View} {g:Nat->Option Blk} (bc:∀b,keep.contains b=true->G.contains b=false) (hg:∀b k,g b=some k->G.contains b=true/\V.hp b=some k) (au:∀b k,V.hp b=some k->G.contains b=true->k.within G) (ht:∀t,FV keep G g (V.tm t) (V'.tm t)\/V'.tm t=.unk) (hk:∀b,V'.hp b=none\/(keep.contains b=true/\ ∃k k',V.hp b=some k/\V'.hp b=some k'/\FB keep G g k k')) (be:∀b,keep.contains b=true->V'.hp b≠none):Sim C V' a w:=by
 let F:=aIE fz ρ G w
 let ρ':Ren:=fun b=>if keep.contains b then ρ b else none
 let D:Ren:=fun b=>if G.contains b then ρ b else none
 have hle:fz.le F:=by constructor;{intro c o v e;simp only[F,aIE];split;{exact h.fcell c o v e};{exact e}};{intro c o e;simp only[F,aIE];split;{exact h.fobj c o e};{exact e}}
 obtain⟨V1,aj,U⟩:∃V1:View,(∀t,V1.tm t=.unk)/\ ∀b,V1.hp b=if G.contains b then V.hp b else none:=⟨⟨fun _=>.unk,fun b=>if G.contains b then V.hp b else none⟩,fun _=>rfl,fun _=>rfl⟩
 have av:SimE C V1 a w fz D:=by
  have W:∀b,G.contains b=true->D b=ρ b:=fun b L=>(by grind);have I:∀p,aG (V1.at p)=true->V1.at p=V.at p/\bM a w D p=bM a w ρ p:=(by intro p hp;cases p with|t i=>simp only[View.at,aj]at hp;cases hp|c b j=>simp only[View.at,U]at hp|-;split at hp;{rename_i M;exact⟨by rw[if_pos M],by simp only[bM,W b M]⟩};simp_all [aG]);refine{h with
   tm:=fun t=>by simp_all [Holds],hp:=fun b k hk=>?_,dom:=fun b Y=>?_,inj:=fun b b' c h1 A=>?_,tips:=fun p e wd rows hp=>?_,tipinj:=fun p q hp hq g g' n n' c O az a0 hg=>?_,
   keep:=fun b c O h1 A=>(by simp only[D]at A;split at A;exact h.keep b c O h1 A;cases A),
   br:=fun b c O h1 A=>(by simp only[D]at A;split at A;exact h.br b c O h1 A;cases A)}
  {rw[U]at hk;split at hk;{rename_i M;obtain⟨c,S,h1,A,E⟩:=h.hp b k hk;refine⟨c,by rw[W b M];exact S,h1,?_,E⟩;have hw:=au b k hk M;cases k with|hid l o=>exact A|cells e cs=>obtain⟨cur,x1,J,K⟩:=A;exact⟨cur,x1,J.within W _ _ hw,K⟩|map ks vs=>obtain⟨es,clock,x1,J,K,Z⟩:=A;exact⟨es,clock,x1,J,K.within W _ _ hw,Z⟩|mapd ks vs=>obtain⟨es,clock,x1,J,K,Z⟩:=A;exact⟨es,clock,x1,J,K.within W _ _ hw,Z⟩};{cases hk}};{rw[U]at Y;simp only[D];split at Y;{rename_i M;rw[if_pos M];exact h.dom b Y};simp_all};{simp only[D]at h1 A;split at h1;{split at A;{exact h.inj b b' c h1 A};{cases A}};{cases h1}};{obtain⟨h1,A⟩:=I p (by rw[hp];rfl);rw[A];rcases h.tips p e wd rows (by simp_all)with hh|⟨g,cap,cur,x1,J,K,Z,x5,x6,x7,x8,x9⟩;{exact .inl hh};{refine .inr ⟨g,cap,cur,x1,J,K,Z,x5,x6,x7,x8,fun b=>?_⟩;grind}};{obtain⟨h1,A⟩:=I p hp;obtain⟨E,h4⟩:=I q hq;exact h.tipinj p q (by simp_all) (by simp_all) g g' n n' c O (by simp_all) (by simp_all) hg}
 have ah:Shows F fz w D:=by refine⟨hle,fun b c o v L S=>?_,fun b c o L S=>?_⟩;{simp only[D]at L;split at L;{rename_i M;simp only[F,aIE];rw[if_pos ⟨b,M,L⟩];exact S};{cases L}};{simp only[D]at L;split at L;{rename_i M;simp only[F,aIE];rw[if_pos ⟨b,M,L⟩];exact S};{cases L}}
 have a6:∀b k,g b=some k->V1.hp b=some k:=fun b k e=>by simp_all
 have ak:∀b,G.contains b=true->D b=ρ b:=fun b L=>by grind
 have aa:∀b,keep.contains b=true->ρ' b=ρ b:=fun b L=>by grind
 have a7:∀ {x y:AV} {v:Value},FV keep G g x y->Holds fz x ρ v->Holds F y ρ' v:=by intro x y v a8 hv;rcases a8 with⟨rfl,hw⟩|⟨_,⟨hw,hk⟩|⟨hw,z,hr,hk⟩⟩;{exact(hv.mono hle _ _ _ _ (Ren.le_refl _)).within aa _ _ hw};{exact hk.holds _ _ ((hv.mono hle _ _ _ _ (Ren.le_refl _)).within aa _ _ hw)};{have L:=hk.holds _ _ (hr.holds av ah a6 v (hv.within ak _ _ hw));exact L.mono (Fz.le_refl _) _ _ _ _ (fun b c e=>by grind [bT])}
 have ab:∀ {l l':List AV},FVL keep G g l l'-> ∀vs,HoldsL fz l ρ vs->HoldsL F l' ρ' vs:=by intro l l' M;induction M with|nil=>intro vs hv;exact hv|cons hx _ ih=>grind [HoldsL]
 have ac:∀c,(∀b,G.contains b=true->ρ b≠some c)->(∀o,F.cell c o=fz.cell c o)/\F.obj c=fz.obj c:=by intro c S;have:¬ ∃b,G.contains b=true/\ρ b=some c:=fun⟨b,h1,A⟩=>S b h1 A;exact⟨fun o=>by simp only[F,aIE];simp_all,by simp only[F,aIE];simp_all⟩
 have I:∀p,aG (V'.at p)=true->V'.at p=V.at p/\bM a w ρ' p=bM a w ρ p:=by intro p hp;cases p with|t i=>simp only[View.at]at hp|-;rcases ht i with hf|hu;{rcases hf with⟨e,_⟩|⟨ho,_⟩;{exact⟨e.symm,rfl⟩};simp_all};{rw[hu]at hp;cases hp}|c b j=>simp only[View.at]at hp|-;rcases hk b with hn|⟨ad,k,k',h1,A,E⟩;{rw[hn]at hp;cases hp};{rw[A]at hp;rw[h1,A];simp only[Option.map_some,Option.getD_some]at hp|-;rcases E.at j with⟨e,_⟩|⟨ho,_⟩;{exact⟨e.symm,by simp only[bM,aa b ad]⟩};simp_all}
 refine⟨F,ρ',{h with
  tm:=fun t=>?_,hp:=fun b k am=>?_,dom:=fun b Y=>?_,inj:=fun b b' c h1 A=>?_,fcell:=fun c o v e=>?_,fobj:=fun c o e=>?_,f0:=Fz.le_trans h.f0 hle,f1:=fun c S an=>?_,
  tips:=fun p e wd rows hp=>?_,tipinj:=fun p q hp hq g g' n n' c O az a0 hg=>?_,
  keep:=fun b c O h1 A=>(by simp only[ρ']at A;split at A;exact h.keep b c O h1 A;cases A),
  br:=fun b c O h1 A=>(by simp only[ρ']at A;split at A;exact h.br b c O h1 A;cases A)}⟩
 {rcases ht t with hf|hu;{exact a7 hf (h.tm t)};simp_all [Holds]};{rcases hk b with hn|⟨ad,k1,k',h1,A,E⟩;{simp_all};{rw[A]at am;cases am;obtain⟨c,S,hB,hblk,bl,bm⟩:=h.hp b k1 h1;have ai:∀b',G.contains b'=true->ρ b'≠some c:=(by intro b' Y e;have:=h.inj b b' c S e;simp_all);have hF:=ac c ai;refine⟨c,by simp_all,hB,?_,fun o=>by simp[*],by simp[*]⟩;cases k1 with|cells e cs=>(cases k with|cells e' cs'=>simp only[FB]at E;obtain⟨rfl,E⟩:=E;obtain⟨cur,x1,J,K⟩:=hblk;exact⟨cur,x1,ab E _ J,K⟩|map ks vs=>simp_all [FB]|mapd ks vs=>simp_all [FB]|hid l o=>simp_all [FB])|hid l o=>(cases k with|hid l' o'=>simp only[FB]at E;obtain⟨rfl,rfl⟩:=E;exact hblk|cells e' cs'=>simp_all [FB]|map ks vs=>simp_all [FB]|mapd ks vs=>simp_all [FB])|map ks vs=>(cases k with|cells e' cs'=>simp_all [FB]|map ks' vs'=>simp only[FB]at E;obtain⟨rfl,E⟩:=E;obtain⟨es,clock,x1,J,K,Z⟩:=hblk;exact⟨es,clock,x1,J,ab E _ K,Z⟩|mapd ks vs=>simp_all [FB]|hid l o=>simp_all [FB])|mapd ks vs=>cases k with|cells e' cs'=>simp_all [FB]|map ks vs=>simp_all [FB]|hid l o=>simp_all [FB]|mapd ks' vs'=>simp only[FB]at E;obtain⟨rfl,E⟩:=E;obtain⟨es,clock,x1,J,K,Z⟩:=hblk;exact⟨es,clock,x1,J,ab E _ K,Z⟩}};{grind};{simp only[ρ']at h1 A;split at h1;{split at A;{exact h.inj b b' c h1 A};{cases A}};{cases h1}};{simp only[F,aIE]at e;split at e;{exact e};{exact h.fcell c o v e}};{simp only[F,aIE]at e;split at e;{exact e};{exact h.fobj c o e}};{have ai:∀b,G.contains b=true->ρ b≠some c:=(by intro b _ e;cases ad:V.hp b with|none=>rw[h.dom b ad]at e;cases e|some k=>obtain⟨O,bn,hB,_⟩:=h.hp b k ad;grind);have hF:=ac c ai;exact⟨fun o v e=>(h.f1 c S an).1 o v (by simp_all),fun o e=>(h.f1 c S an).2 o (by simp_all)⟩};{obtain⟨h1,A⟩:=I p (by rw[hp];rfl);rw[A];rcases h.tips p e wd rows (by simp_all)with hh|⟨g,cap,cur,x1,J,K,Z,x5,x6,x7,x8,x9⟩;{exact .inl hh};{have hF:=ac g (fun b _=>x9 b);refine .inr ⟨g,cap,cur,x1,J,K,Z,x5,x6,fun o ho=>by rw[hF.1];exact x7 o ho,by rw[hF.2];exact x8,fun b=>?_⟩;grind}};{obtain⟨h1,A⟩:=I p hp;obtain⟨E,h4⟩:=I q hq;exact h.tipinj p q (by simp_all) (by simp_all) g g' n n' c O (by simp_all) (by simp_all) hg}
def bIN (keep o:List Nat) (g:Nat->Option Blk) (s:AS):List (Nat×AV)->Prop
 |[]=>True
 |(t,y)::r=>FV keep o g ((lk s.tm t).getD .unk) y/\bIN keep o g s r
def bIO (keep o:List Nat) (g:Nat->Option Blk) (s:AS):List (Nat×Blk)->Prop
 |[]=>True
 |(b,A)::r=>(match lk s.hp b with|some k=>FB keep o g k A|none=>False)/\bIO keep o g s r
def bIP (o:List Nat) (s:AS):List Nat->Prop
 |[]=>True
 |b::r=>(match lk s.hp b with|some k=>k.within o|none=>True)/\bIP o s r
def cKO (o:List Nat) (s:AS):Nat->Option Blk:=fun b=>if o.contains b then lk s.hp b else none
structure Frz (Bs:List Nat) (s' s:AS):Prop where
 dis:(s'.hp.map (·.1)).all (fun b=>!Bs.contains b)=true
 bs:bIP Bs s Bs
 tm:bIN (s'.hp.map (·.1)) Bs (cKO Bs s) s s'.tm
 hp:bIO (s'.hp.map (·.1)) Bs (cKO Bs s) s s'.hp
theorem aZK {keep o:List Nat} {g:Nat->Option Blk} {s:AS}:∀ {r:List (Nat×AV)},bIN keep o g s r-> ∀t y,lk r t=some y->FV keep o g ((lk s.tm t).getD .unk) y
 |[],_,t,y,h=>by simp_all
 |(u,z)::r,hw,t,y,h=>by simp only[bIN]at hw;simp only[lk]at h;split at h;{simp_all};{exact aZK hw.2 t y h}
theorem aZL {keep o:List Nat} {g:Nat->Option Blk} {s:AS}:∀ {r:List (Nat×Blk)},bIO keep o g s r-> ∀b A,lk r b=some A-> ∃k,lk s.hp b=some k/\FB keep o g k A
 |[],_,t,y,h=>by simp_all
 |(u,z)::r,hw,t,y,h=>by simp only[bIO]at hw;simp only[lk]at h;split at h;{grind};{exact aZL hw.2 t y h}
theorem aZM {o:List Nat} {s:AS}:∀ {r:List Nat},bIP o s r-> ∀b k,r.contains b=true->lk s.hp b=some k->k.within o
 |[],_,b,k,h,_=>by grind
 |u::r,hw,b,k,h,hk=>by simp only[bIP]at hw;by_cases e:b=u;{simp_all};{refine aZM hw.2 b k ?_ hk;simp_all}
theorem AWp.freezeM {c:Code} {Q:Exit->AS->Prop} {s:AS} (G:List Nat) (s':AS) (D:Frz G s' s) (h:AWp P C c Q s'):AWp P C c Q s:=by intro a w ⟨fz,ρ,J⟩;refine h a w (J.freeze (s'.hp.map (·.1)) G (g:=cKO G s) (fun b A=>?_) (fun b k E=>?_) (fun b k A K=>?_) (fun t=>?_) (fun b=>?_) (fun b A=>?_));{have:=List.all_eq_true.1 D.dis b (by simpa using A);simpa using this};{simp only[cKO]at E;split at E;{rename_i A;exact⟨A,E⟩};{cases E}};{exact aZM D.bs b k K A};{cases o:lk s'.tm t with|none=>right;simp[AS.view,o]|some y=>left;have:=aZK D.tm t y o;simpa[AS.view,o]using this};{cases o:lk s'.hp b with|none=>exact .inl o|some I=>obtain⟨k,h1,L⟩:=aZL D.hp b I o;exact .inr ⟨by rw[lZ];exact⟨I,o⟩,k,I,h1,o,L⟩};grind [lZ,AS.view]
theorem AWp.freeze {c:Code} {Q:Exit->AS->Prop} {s:AS} (_:∀c,C.Mu c=false) (o:List Nat) (s':AS) (A:Frz o s' s) (h:AWp P C c Q s'):AWp P C c Q s:=AWp.freezeM o s' A h
attribute [simp] bIN bIO bIP FV FB
end Go.Aw
end
section
namespace Go.Aw
variable [GL]
variable {P:Program} {C:Ctx} {V:View} {a:Act} {w:World} {fz:Fz} {ρ:Ren} {o:Oper} {ops:Array Oper} {Q:Exit->Act->World->Prop}
def sF:Op->Bool
 | .build .. | .alloc _| .store ..=>true
 |_=>false
theorem aYD {ev:Operand->Value} (h:sF o.op=true) {n:Next} {w':World} (A:(execOp ev o).run P w=.ok n w'):(∃v,n=.value v)\/n=.skip:=by
 cases D:o.op<;>rw[D]at h<;>first|cases h|skip
 all_goals simp only[execOp,D,Sem.run_bind]at A;generalize G:Sem.run P _ w=x at A;cases x with|halt x E=>cases A|ok d E=>grind [Result.andThen,Sem.run_pure,Result.ok.injEq]
theorem aMZ (h:sF o.op=true):∀c,o.op≠ .defer c:=by intro c e;rw[e]at h;cases h
theorem bZU (h:sF o.op=true) {E G:Act->World->Prop} {I J:Exit->Act->World->Prop} (h1:o.wpIn (fen C) 0 P a w E I) (K:o.wpIn (fen C) 0 P a w G J): o.wpIn (fen C) 0 P a w (fun a w=>E a w/\G a w) (fun e a w=>I e a w/\J e a w):=by
 refine⟨h1.1,?_⟩;have A:=h1.2;have D:=K.2;rw[Oper.semAt_eq _ _ _ (aMZ h)]at A D|-;generalize L:(execOp a.eval o).run P w=x at A D|-;cases x with
 |halt x M=>cases x<;>first|exact⟨A,D⟩|exact A.elim
 |ok n M=>
  rcases aYD h L with⟨v,rfl⟩|rfl
  ·exact⟨A,D⟩
  ·exact⟨A,D⟩
theorem bKT (h:sF o.op=true) {D E:Act->World->Prop} {G I:Exit->Act->World->Prop} (J:∀a w,D a w->E a w) (K:∀e a w,G e a w->I e a w) (h1:o.wpIn (fen C) 0 P a w D G):o.wpIn (fen C) 0 P a w E I:=by refine⟨h1.1,?_⟩;have A:=h1.2;rw[Oper.semAt_eq _ _ _ (aMZ h)]at A|-;generalize L:(execOp a.eval o).run P w=x at A|-;cases x with|halt x M=>(cases x<;>first|exact K _ _ _ A|exact A.elim)|ok n M=>rcases aYD h L with⟨v,rfl⟩|rfl;{exact J _ _ A};{exact J _ _ A}
theorem aMN {D E:Exit->Act->World->Prop} (G:∀e a w,D e a w->E e a w):∀ (l:List Nat),(∀i∈l,∃o,ops[i]? =some o/\sF o.op=true/\o.guard=none)-> ∀ (a:Act) (w:World),wpOpsIn (fen C) 0 P ops D l a w-> wpOpsIn (fen C) 0 P ops E l a w
 |[],_,a,w,h1=>by simp_all [wpOpsIn]
 |i::l,I,a,w,h1=>by obtain⟨o,J,A,K⟩:=I i (by simp);rw[wpOpsIn_cons]at h1|-;unfold wpOpIn at h1|-;rw[J]at h1|-;simp only at h1|-;rw[if_pos (by simp[Region.wanted,K])]at h1|-;exact bKT A (fun a w hk=>aMN G l (fun k hk=>I k (by grind)) a w hk) G h1
theorem aWX {E G:Exit->Act->World->Prop}:∀ (l:List Nat),(∀i∈l,∃o,ops[i]? =some o/\sF o.op=true/\o.guard=none)-> ∀ (a:Act) (w:World),wpOpsIn (fen C) 0 P ops E l a w->wpOpsIn (fen C) 0 P ops G l a w-> wpOpsIn (fen C) 0 P ops (fun e a w=>E e a w/\G e a w) l a w
 |[],_,a,w,h1,A=>by simp_all [wpOpsIn]
 |i::l,I,a,w,h1,A=>by obtain⟨o,J,D,K⟩:=I i (by simp);rw[wpOpsIn_cons]at h1 A|-;unfold wpOpIn at h1 A|-;rw[J]at h1 A|-;simp only at h1 A|-;rw[if_pos (by simp[Region.wanted,K])]at h1 A|-;refine Oper.wpIn_mono (fun a w hk=>?_) (bZU D h1 A);exact aWX l (fun k hk=>I k (by grind)) a w hk.1 hk.2
theorem bEU (a:Act) (t:Nat) (h:t<a.tmps.size):a.put (some t) (a.tmps.getD t undef)=a:=by cases a with|mk tmps defers=>simp only[Act.put];congr 1;apply Array.ext_getElem?;simp_all [Array.getElem?_setIfInBounds]
theorem SimE.exact (h:SimE C V a w fz ρ) {t:Nat} (A:t<C.N):SimE C (V.put t (.val (a.tmps.getD t undef))) a w fz ρ:=by have:=h.put A (x:=.val (a.tmps.getD t undef)) (v:=a.tmps.getD t undef) (by simp only[Holds]) rfl;rw[bEU a t (by rw[h.sz];exact A)]at this;omega
def cDE (s:AS) (t A:Nat) (ty e:TypeId) (wd:Nat) (rows:List (List AV)) (cs:List AV):AS:=(s.put t (.rd wd rows)).setB A (.cells ty (.own e wd rows::cs))
theorem sU {s:AS} {t:Nat} {x:AV} (h:lk s.tm t=some x):s.view.tm t=x:=by simp[*]
theorem AWp.regM {id:Nat} {Q:Exit->AS->Prop} {s:AS} (live:List Nat) (aq:List Bool) (L:List ROp) (G:lN P ops aq ops.toList=some L) (bp:fZ C.N L=true) (j:Nat) (hj:j<=L.length) (hq:∀i∈List.range' j (L.drop j).length,∃o,ops[i]? =some o/\sF o.op=true/\o.guard=none) (R1:List Res) (t A:Nat) (ht:t<C.N) (bu:t≠A) (ty e:TypeId) (wd:Nat) (rows:List (List AV)) (cs:List AV) (h:∀K:AS->Prop,(∀s',Q .normal s'->K s')->kW P (L.take j) (cT (L.take j) R1) s [] [] (fun s1 _=> lk s1.tm t=some (.own e wd rows)/\(∀W n c,kW P (L.drop j) (cT (L.drop j) []) (s1.put t (.val (.slice W n c))) [] [] (fun S _=>lk S.tm t=some (.val (.slice W n c))/\lk S.tm A=some (.ptr A 0)/\ ∃ar cs',lk S.hp A=some (.cells ar (.val (.slice W n c)::cs'))))/\ kW P (L.drop j) (cT (L.drop j) []) s1 [] [] (fun E _=>lk E.tm t=some (.own e wd rows)/\lk E.tm A=some (.ptr A 0)/\lk E.hp A=some (.cells ty (.rd wd rows::cs))/\K (iO live (cDE E t A ty e wd rows cs))))): AWp P C (.region id ops false) Q s:=by
 obtain⟨t1,au,h1,h2,s1,G1,J1,h3,⟨hT,hB,hA⟩,_⟩:=jT _ _ s s [] [] _ (h (Q .normal) (fun _ h=>h)) (Rel.refl _);intro a w hs;obtain⟨hlen,_⟩:=qA _ _ _ _ G;have av:L.length=ops.size:=by omega
 refine wpIn_region ?_;have M:List.range ops.size=List.range' 0 (L.take j).length++(List.range' j (L.drop j).length++[]):=by rw[List.range_eq_range',List.length_take,List.length_drop,Nat.min_eq_left (by omega),List.append_nil];have e1:ops.size=j+(ops.size-j):=(by omega);rw[e1,<-List.range'_append_1,Nat.zero_add];grind
 rw[M];have af:fZ C.N (L.take j)=true:=by grind [fZ,List.all_eq_true,List.mem_of_mem_take]
 have U:fZ C.N (L.drop j)=true:=by grind [fZ,List.all_eq_true,List.mem_of_mem_drop]
 refine wU G (L.take j) _ 0 s t1 au (fun i r hi=>?_) h1 h2 af _ a w hs fun Y w1 aw=>?_;{grind};{have D:=h3.sim aw;have ag:Sim C ((clr G1 s1).put t (.val (Y.tmps.getD t undef))).view Y w1:=(by obtain⟨ah,ai,D⟩:=D;rw[zY];exact⟨ah,ai,D.exact ht⟩);obtain⟨W,n,cp,ay⟩:∃W n cp,Y.tmps.getD t undef=.slice W n cp:=(by obtain⟨ah,ai,D⟩:=D;have:=D.tm t;grind [sU,Holds]);have hB:=hB W n cp;rw[<-ay]at hB;generalize Y.tmps.getD t undef=v at ag hB;obtain⟨tB,az,b1,b2,S,GB,JB,b3,⟨b4,b5,a0,a2,b6⟩,_⟩:=jT _ _ ((clr G1 s1).put t (.val v)) ((clr G1 s1).put t (.val v)) [] [] _ hB (Rel.refl _);obtain⟨tA,a8,m1,m2,E,I,JA,m3,⟨a4,a5,a6,a7⟩,_⟩:=jT _ _ (clr G1 s1) (clr G1 s1) [] [] _ hA (Rel.refl _);have J:∀ (i:Nat) (r:ROp),(L.drop j)[i]? =some r->L[j+i]? =some r:=fun i r hi=>(by simp_all);have wB:=wU (Q:=fun e a w=>e=.normal/\Sim C (clr GB S).view a w) G (L.drop j) _ j _ tB az J b1 b2 U [] Y w1 ag fun a3 w3 Z=>(by simp only[wpOpsIn];exact⟨trivial,b3.sim Z⟩);have wA:=wU (Q:=fun e a w=>e=.normal/\Sim C (clr I E).view a w) G (L.drop j) _ j _ tA a8 J m1 m2 U [] Y w1 D fun a3 w3 Z=>(by simp only[wpOpsIn];exact⟨trivial,m3.sim Z⟩);have a9:=aWX _ (by simp_all) Y w1 wA wB;refine aMN ?_ _ (by simp_all) _ _ a9;rintro e' a' w' ⟨⟨rfl,ba,O,aj⟩,-,cj,ck,aa⟩;refine⟨_,Sim.keep live ?_,a7⟩;have bb:(clr I E).view.tm t=.own e wd rows:=sU a4;have bc:(clr I E).view.tm A=.ptr A 0:=sU a5;have bd:(clr I E).view.hp A=some (.cells ty (.rd wd rows::cs)):=a6;have be:(clr GB S).view.tm t=.val v:=sU b4;have bf:(clr GB S).view.tm A=.ptr A 0:=sU b5;have bg:(clr GB S).view.hp A=some (.cells a0 (.val v::a2)):=b6;have hv:=aa.tm t;rw[be]at hv;simp only[Holds]at hv;have pA:=aj.tm A;have pB:=aa.tm A;rw[bc]at pA;rw[bf]at pB;simp only[Holds]at pA pB;obtain⟨c,cl,bn⟩:=pA;obtain⟨c2,bi,bo⟩:=pB;have ab:c2=c:=(by simp_all);subst ab;obtain⟨c3,ak,_,⟨cur,al,am,_⟩,_⟩:=aa.hp A _ bg;rw[bi]at ak;cases ak;have bj:cQ w' c2 0=v:=(by simp only[HoldsL]at am;obtain⟨u,r,bk,hu,_⟩:=am;simp only[Holds]at hu;simp only[cQ,al];rw[Array.getD_eq_getD_getElem?,<-Array.getElem?_toList,bk,hu];rfl);have e1:(clr I E).view.at (.t t)=.own e wd rows:=bb;have e3:(clr I E).view.at (.c A 0)=.rd wd rows:=(by show(((clr I E).view.hp A).map (·.at 0)).getD .unk=_;simp_all);have ab:bM a' w' O (.c A 0)=bM a' w' O (.t t):=(by show(match O A with|some c=>cQ w' c 0|none=>undef)=a'.tmps.getD t undef;simp[*]);have an:=aj.move (p:=.t t) (q:=.c A 0) (by simp) (by rw[e1];rfl) ⟨_,bd,by simp[Blk.len]⟩ (by simp_all) ab;have bl:(((clr I E).view.setAt (.t t) (Aw.dem ((clr I E).view.at (.t t)))).setAt (.c A 0) ((clr I E).view.at (.t t)))=(cDE (clr I E) t A ty e wd rows cs).view:=(by unfold cDE;rw[jC,zY];rw[e1];have e2:((clr I E).view.setAt (.t t) (Aw.dem (.own e wd rows)))=(clr I E).view.put t (.rd wd rows):=rfl;simp_all [View.setAt,View.put,Blk.set,List.set_cons_zero]);rw[bl]at an;exact⟨ba,O,an⟩}
def bHE (ops:Array Oper) (l:List Nat):Bool:=l.all fun i=>match ops[i]? with|some o=>sF o.op&&o.guard.isNone|none=>false
theorem aVS {l:List Nat} (h:bHE ops l=true):∀i∈l,∃o,ops[i]? =some o/\sF o.op=true/\o.guard=none:=by intro i hi;have:=List.all_eq_true.1 h i hi;cases A:ops[i]? with|none=>simp_all|some o=>simp_all
theorem AWp.gM {D:Func} {id k U:Nat} {live:List Nat} {Q:Exit->AS->Prop} {s:AS} {L:List ROp} (G:FnT P D) (hC:C.N=D.ntmps) (i j:Nat) (S:List Res) (t A:Nat) (ty e:TypeId) (wd:Nat) (rows:List (List AV)) (cs:List AV) (h:∀K:AS->Prop,(∀s',Q .normal s'->K s')->kW P (L.take j) (cT (L.take j) S) s [] [] (fun s1 _=> lk s1.tm t=some (.own e wd rows)/\(∀I n c,kW P (L.drop j) (cT (L.drop j) []) (s1.put t (.val (.slice I n c))) [] [] (fun J _=>lk J.tm t=some (.val (.slice I n c))/\lk J.tm A=some (.ptr A 0)/\ ∃M cs',lk J.hp A=some (.cells M (.val (.slice I n c)::cs'))))/\ kW P (L.drop j) (cT (L.drop j) []) s1 [] [] (fun E _=>lk E.tm t=some (.own e wd rows)/\lk E.tm A=some (.ptr A 0)/\lk E.hp A=some (.cells ty (.rd wd rows::cs))/\K (iO live (cDE E t A ty e wd rows cs))))) (h1:G.tab[i]? =some (k,U,live):=by rfl) (W:G.L[i]? =some L:=by rfl) (Y:hU D k=ops:=by kernel_rfl) (Z:fZ D.ntmps L=true:=by kernel_rfl) (hj:j<=L.length:=by decide) (hq:bHE ops (List.range' j (L.drop j).length)=true:=by kernel_rfl) (ht:t<D.ntmps:=by decide) (O:t≠A:=by decide):AWp P C (.region id ops false) Q s:=by subst Y;exact AWp.regM live _ L (kG G.ok h1 W) (by simp[*]) j hj (aVS hq) S t A (by omega) O ty e wd rows cs h
end Go.Aw
end
section
open Go Go.Proofs
namespace Go.Aw
variable [GL]
variable {P:Program}
def cSC (P:Program) (g:FuncId) (ts:List AV) (v:Value):Prop:=∀ (fz:Fz) (w:World) (vs:Array Value),sK fz w->GLok fz->HoldsL fz ts bT vs.toList->
 Calls P g vs w fun e w'=>e=.returned v/\w'.os=w.os/\w'.tape=w.tape/\w'.output=w.output/\w.drawn<=w'.drawn/\w.heap.size<=w'.heap.size/\ ∀k,k<w.heap.size->w'.heap[k]? =w.heap[k]?
theorem bKW {w w':World} (h1:w'.os=w.os) (D:w'.tape=w.tape) (E:w'.output=w.output) (J:w.drawn<=w'.drawn) (K:w.heap.size<=w'.heap.size) (G:∀k,k<w.heap.size->w'.heap[k]? =w.heap[k]?): ∃q os,w'=Go.Sort.grow (w.drewN q) os:=by obtain⟨hp,O,dr,os,out⟩:=w;obtain⟨o,L,A,M,I⟩:=w';simp only at h1 D E J K G;subst h1 D E;refine⟨A-dr,o.extract hp.size o.size,?_⟩;simp only[Go.Sort.grow,World.drewN,World.mk.injEq,true_and,and_true];refine⟨?_,by omega⟩;refine Array.ext_getElem? fun i=>?_;by_cases hi:i<hp.size;{rw[Array.getElem?_append_left hi,G i hi]};{rw[Array.getElem?_append_right (by omega),Array.getElem?_extract];by_cases S:i<o.size;{rw[if_pos (by omega)];congr 1;omega};{rw[if_neg (by omega),Array.getElem?_eq_none (by omega)]}}
theorem aQI {α:Type} [Inhabited α] {enc:α->Value} {w:World} {c:Nat} {t:TypeId} {cur:Array Value} (h1:w.heap[c]? =some (.cells cur t (0,0))) (n:Nat) (d:Array α) (os:Array Obj): (∀k,k<w.heap.size->k≠c->(sortWorld enc w c 0 n d os).heap[k]? =w.heap[k]?)/\(sortWorld enc w c 0 n d os).heap[c]? =some (.cells (Go.Sort.putCells enc 0 d cur) t (0,0))/\w.heap.size<=(sortWorld enc w c 0 n d os).heap.size:=by have o:=cE h1;refine⟨fun k hk A=>?_,?_,?_⟩;{simp only[sortWorld,Go.Sort.grow,Go.Sort.putRow,Go.Sort.mapBlock,Go.Sort.ahead];rw[Array.getElem?_append_left (by simpa using hk),Array.getElem?_modify,if_neg (fun e=>A e.symm)]};{simp only[sortWorld,Go.Sort.grow,Go.Sort.putRow,Go.Sort.mapBlock,Go.Sort.ahead];rw[Array.getElem?_append_left (by simpa using o),Array.getElem?_modify,if_pos rfl,h1];rfl};{simp[sortWorld,Go.Sort.grow,Go.Sort.putRow,Go.Sort.mapBlock,Go.Sort.ahead]}
theorem ConM.sortF {f g:FuncId} {β:Type} (X:β->AV) (good:β->Prop) (cf:β->β->Int) {ad:Go.Shelf.Ren} (L:SlLaysF.n6 P ad) (hf:ad.f 6=f) (hE:Enters P f) (hg:Enters P g) (hX:∀x,noref (X x)=true/\aG (X x)=false) (ae:∀a b,good a->good b->cSC P g [X a,X b] (.int .i64 (cf a b))) (af:∀a,good a-> ¬cf a a<0) (au:∀a b d,good a->good b->good d->cf a b<0->cf b d<0->cf a d<0) (av:∀a b d,good a->good b->good d-> ¬cf a b<0-> ¬cf b d<0-> ¬cf a d<0) (b:Nat) (t:TypeId) (l M:List β) (e:Nat) (hl:l≠[]) (bm:l.length<4611686018427387904) (aw:∀x∈l,good x) (hs:∀m:List β,m.Perm l->m.Pairwise (fun a b=>¬cf b a<0)->m=M): ConM P f [(b,.cells t (l.map X++List.replicate e .unk))] [.vec b 1 0 l.length (l.length+e),.val (.func (.func g) #[] #[])] (.tup []) [(b,.cells t (M.map X++List.replicate e .unk))]:=by
 have ag:∀m:List β,∀x∈m.map X++List.replicate e AV.unk,noref x=true/\aG x=false:=fun m x I=>by rcases List.mem_append.1 I with h|h;{obtain⟨r,_,rfl⟩:=List.mem_map.1 h;exact hX r};{rw[List.eq_of_mem_replicate h];exact⟨rfl,rfl⟩}
 refine⟨hE,rfl,fun fz ρ w vs ah ax hm _ ai=>?_⟩;obtain⟨c,Y,hB,aj,ak⟩:=hm.hp b (.cells t (l.map X++List.replicate e .unk)) (by simp[lk]);obtain⟨cur,h1,h2,h3⟩:=hB;have E:vs= #[.slice (some ⟨c,0,none⟩) l.length (l.length+e),.func (.func g) #[] #[]]:=by simp only[HoldsL,Holds]at ai;obtain⟨v,r',h4,⟨S,h5,rfl⟩,v2,r2,rfl,rfl,rfl⟩:=ai;rw[Y]at h5;cases h5;exact Array.toList_inj.1 (by simpa using h4)
 subst E;have Z:∀ (m:List β) p,aG ((hpV (lk [(b,Blk.cells t (m.map X++List.replicate e .unk))])).at p)=false:=by intro m p;cases p with|t i=>rfl|c b' j=>simp only[View.at,hpV,lk];split;{simp only[Option.map_some,Option.getD_some,Blk.at];rw[List.getD_eq_getElem?_getD];cases I:(m.map X++List.replicate e AV.unk)[j]? with|none=>rfl|some x=>exact(ag m x (List.mem_of_getElem? I)).2};{rfl}
 have az:cur.size=l.length+e:=by have:=h2.len;simpa using this
 have a0:∀j (A:j<l.length),∃G:j<cur.size,Holds fz (X l[j]) bT cur[j]/\cur[j].oneCell'=true:=by intro j A;have G:j<cur.size:=(by omega);obtain⟨v,E,hh⟩:=h2.get _ _ _ j (X l[j]) (by rw[List.getElem?_append_left (by simpa using A)];simp[A]);rw[Array.getElem?_toList,Array.getElem?_eq_getElem G]at E;cases E;exact⟨G,hh.noref _ _ _ _ (hX _).1,h3 _ (by simp)⟩
 let α:Type:={p:Value×β//good p.2/\Holds fz (X p.2) bT p.1/\p.1.oneCell'=true}
 let d:Array α:=Array.ofFn fun i:Fin l.length=>(⟨(cur[i.1]'(by omega),l[i.1]),aw _ (List.getElem_mem _),(a0 i.1 i.2).2⟩:α)
 have aa:d.size=l.length:=by simp[d]
 have bc:0<l.length:=List.length_pos_iff.2 hl;haveI:Inhabited α:=⟨d[0]'(by omega)⟩;let enc:α->Value:=fun x=>x.1.1
 let ab:α->α->Int:=fun x y=>cf x.1.2 y.1.2
 have hO:Go.Sort.SWO (ltOf ab):={irrefl:=fun x=>decide_eq_false (af _ x.2.1),trans:=fun x y z p q=>decide_eq_true (au _ _ _ x.2.1 y.2.1 z.2.1 (of_decide_eq_true p) (of_decide_eq_true q)),ntrans:=fun x y z p q=>decide_eq_false (av _ _ _ x.2.1 y.2.1 z.2.1 (of_decide_eq_false p) (of_decide_eq_false q))};have hH:Go.Sort.Holds enc w c 0 d:=by intro j A;have G:j<l.length:=(by omega);refine⟨?_,by simp[World.frozen?,h1]⟩;simp only[World.cell?,h1,Option.isSome_none,Bool.false_eq_true,if_false,Nat.zero_add];rw[Array.getElem?_eq_getElem (by omega),getElem!_pos _ j A];simp[enc,d]
 have am:∀n dk os,sK fz (sortWorld enc w c 0 n dk os):=by intro n dk os;obtain⟨x1,x2,x3⟩:=aQI (enc:=enc) h1 n dk os;refine⟨fun S o v E=>?_,fun S o E=>?_⟩;{have ac:S≠c:=(by rintro rfl;rw[aj]at E;cases E);have hold:=ah.1 _ _ _ E;have a1:S<w.heap.size:=World.block_lt_of_cell? w _ hold;simp only[World.cell?]at hold|-;rw[x1 S a1 ac];exact hold};{have ac:S≠c:=(by rintro rfl;rw[ak]at E;cases E);have hold:=ah.2 _ _ E;rw[x1 S (cE hold) ac];exact hold}
 have hC:CmpLays1 P g #[] enc ab c 0 d.size w:=by
  intro n os dk _ x y;refine Calls.mono (ae x.1.2 y.1.2 x.2.1 y.2.1 fz _ _ (am n dk os) ax (by simp only[HoldsL];exact⟨_,_,rfl,x.2.2.1,_,_,rfl,y.2.2.1,rfl⟩)) ?_
  rintro e' w' ⟨rfl,k1,k2,k3,k4,k5,k6⟩;exact⟨rfl,bKW k1 k2 k3 k4 k5 k6⟩
 obtain⟨fg,a2,a3,a4⟩:=hg;obtain⟨cg,a5⟩:=Option.isSome_iff_exists.1 a4;have hc:=Any.slices_SortFunc L enc (fun x=>x.2.2.2) ab hO g #[] c 0 (l.length+e) d w (enters_of a2 a3 a5) hC hH (cE h1) (by omega);rw[hf,aa]at hc;refine Calls.mono hc ?_;rintro e' w' ⟨rfl,D,n,os,⟨p1,_,p3⟩,a6,rfl⟩;obtain⟨x1,x2,x3⟩:=aQI (enc:=enc) h1 n D os;have ao:D.size=l.length:=by omega
 have hex:∀a:Array α,a.size=l.length->(a.extract 0 l.length).toList=a.toList:=fun a ha=>by rw[<-ha];simp
 rw[hex D ao,hex d aa]at p3;have ap:d.toList.map (fun x=>x.1.2)=l:=by refine List.ext_getElem (by simp[aa]) fun i h1 h2=>?_;simp[d]
 have aq:D.toList.map (fun x=>x.1.2)=M:=by refine hs _ (by rw[<-ap];exact p3.map _) ?_;rw[List.pairwise_iff_getElem];intro i j hi A a7;simp only[List.length_map,Array.length_toList]at hi A;have:=a6 i j (Nat.zero_le _) a7 (by omega);rw[getElem!_pos D i hi,getElem!_pos D j A]at this;have:=of_decide_eq_false this;simpa using this
 have a8:M.length=l.length:=by rw[<-aq];simp[ao]
 have U:∀j,j<cur.size->(Go.Sort.putCells enc 0 D cur)[j]? =some (if j<D.size then enc D[j]! else cur[j]!):=by intro j A;simp only[Go.Sort.putCells,Array.getElem?_mapIdx,Array.getElem?_eq_getElem A,Option.map_some,Nat.zero_le,true_and,Nat.zero_add,Nat.sub_zero];rw[getElem!_pos cur j A]
 have J:(Go.Sort.putCells enc 0 D cur).size=cur.size:=by simp[Go.Sort.putCells]
 have W:HoldsL fz (M.map X++List.replicate e .unk) bT (Go.Sort.putCells enc 0 D cur).toList/\ ∀u∈(Go.Sort.putCells enc 0 D cur).toList,u.oneCell'=true:=by refine⟨HoldsL.of_get _ _ _ (by simp[J,az,a8]) fun j x v I E=>?_,fun u hu=>?_⟩;{rw[Array.getElem?_toList]at E;have O:j<cur.size:=(by rw[<-J];exact(Array.getElem?_eq_some_iff.1 E).1);rw[U j O]at E;cases E;by_cases A:j<M.length;{rw[List.getElem?_append_left (by simpa using A)]at I;rw[if_pos (by omega)];have G:j<D.size:=(by omega);rw[getElem!_pos D j G];have e1:x=X D[j].1.2:=(by subst aq;simp[G]at I;exact I.symm);rw[e1];exact D[j].2.2.1};{rw[List.getElem?_append_right (by simpa using A)]at I;rw[List.eq_of_mem_replicate (List.mem_of_getElem? I)];simp only[Holds]}};{obtain⟨j,A⟩:=List.mem_iff_getElem?.1 hu;rw[Array.getElem?_toList]at A;have O:j<cur.size:=(by rw[<-J];exact(Array.getElem?_eq_some_iff.1 A).1);rw[U j O]at A;cases A;split;{exact D[j]!.2.2.2};{rw[getElem!_pos cur j O];exact h3 _ (by simp)}}
 refine⟨_,fz,ρ,rfl,⟨rfl,rfl,⟨rfl,fun _=>?_⟩,x3,fun k hk hn=>x1 k hk fun e=>hn (.inl ⟨b,by rw[e];exact Y⟩)⟩,Fz.le_refl _,am n D os,fun _ _ _=>⟨fun _=>rfl,rfl⟩,?_,Ren.le_refl _,fun _ _ h=>.inl h,fun S hc=>.inr ?_,by simp[Holds,HoldsL]⟩;{simp[sortWorld,Go.Sort.grow,Go.Sort.putRow,Go.Sort.mapBlock,Go.Sort.ahead]};{refine⟨fun b' k hk=>?_,fun b' K=>?_,hm.inj,fun p e wd rows hp=>?_,fun p q hp _=>?_⟩;{simp only[lk]at hk;split at hk;{rename_i e;subst e;cases hk;exact⟨c,Y,⟨_,x2,HoldsL.noref _ _ _ _ (nP fun x I=>(ag M x I).1) W.1,W.2⟩,aj,ak⟩};{cases hk}};{refine hm.dom b' ?_;simp only[lk]at K|-;split at K;{cases K};{rename_i e;rw[if_neg e]}};{have:=Z M p;rw[hp]at this;cases this};{rw[Z M p]at hp;cases hp}};{rcases hc with⟨b',K⟩|⟨p,g,n',bg,ho,_⟩;{exact .inl ⟨b',K⟩};{rw[Z M p]at ho;cases ho}}
end Go.Aw
end
