/- The program: sums of magnitudes. -/
import Derived.Test.YtackjebfmbnkbaaGreatDoorP20
import Derived.Test.YtackjebfmbnkbaaGreatDoorP10
import Derived.Test.YtackjebfmbnkbaaGreatDoorP19
import Derived.Test.YtackjebfmbnkbaaGreatDoorP21
set_option linter.unusedSimpArgs false
set_option linter.unusedVariables false
set_option linter.unusedSectionVars false
section
open Go Go.Aw Go.Proofs
open Tryz
namespace Go.Al
set_option maxRecDepth 100000
set_option maxRecDepth 20000
instance:FT prog f226:=.n
instance:FT prog f292:=.n
attribute [local simp] aT
def cIM (x:nJ):nJ:=⟨!x.neg,x.parts⟩
theorem bTO (x:nJ):Con prog 226 [jV x] (jV (cIM x)):=by refine Con.oc func226 fun C A D=>?_;refine goX [] fun K o=>?_;simp[jV];refine o _ ?_;refine goX [] fun K o=>?_;simp[jV];refine o _ ?_;exact rtC
def kY (l:List Int) (N:Nat):List AV:=(l.map fun n=>AV.val (.int .i64 n))++List.replicate (N-l.length) (.val (.int .i64 0))
theorem aRK (l:List Int) (N:Nat) (h:l.length<=N):(kY l N).length=N:=by simp[kY];omega
theorem aRI (l:List Int) (N:Nat) (v:Int) (h:l.length<N):(kY l N).set l.length (.val (.int .i64 v))=kY (l++[v]) N:=by
 obtain⟨m,hm⟩:∃m,N-l.length=m+1:=⟨N-l.length-1,by omega⟩;have o:N-(l++[v]).length=m:=by simp;omega
 unfold kY;rw[hm,o,List.replicate_succ,List.set_append_right _ _ (by simp)];simp
theorem bCN (l:List Int) (N:Nat):aW (kY l N)=true:=by refine nP fun x o=>?_;rcases List.mem_append.1 o with o|o;{obtain⟨n,_,rfl⟩:=List.mem_map.1 o;rfl};{rw[List.eq_of_mem_replicate o];rfl}
@[simp] theorem cIG (l:List Int) (N:Nat) (ids:List Nat):bD ids (kY l N)=true:=aN ids _ (bCN l N)
theorem aRJ (N:Nat):kY [] N=List.replicate N (.val (.int .i64 0)):=by simp[kY]
theorem aRL (l:List Int):kY l l.length=l.map fun n=>AV.val (.int .i64 n):=by simp[kY]
theorem cJD (a b:List Int) (ha:a.length<=1048576) (hb:b.length<=1048576):Con prog 292 [aT a,aT b] (aT (aNA a b)):=by
 obtain⟨N,hN⟩:∃N,N=max a.length b.length+1:=⟨_,rfl⟩;have E:(if a.length<b.length then(b.length:Int)else(a.length:Int))=((max a.length b.length:Nat):Int):=by split<;>omega
 have hw:IntKind.i64.wrap (((max a.length b.length:Nat):Int)+1)=(N:Int):=by rw[bH (by omega) (by omega)];omega
 refine Con.oc func292 fun C hC hM=>?_;refine goX [] fun K D=>?_;simp[E,hw];refine D _ ?_;refine goX [] fun K D=>?_;simp[E,hw];refine ck D ?_;refine goX [] fun K D=>?_;simp[E,hw];refine D _ ?_;refine goX [] fun K D=>?_;simp[E,hw];refine D _ ?_;refine .block<| .loopG (fun i:Nat=>{tm:=[(0,aT a),(1,aT b),(5,.vec 15 1 0 N N),(6,aB (iN a b i).2),(17,aB N),(18,aB i)],hp:=[(15,.cells 2 (kY (iN a b i).1 N))]}) (fun i=>i<=N) (fun i=>N-i) 0 (by omega) (by simp[iN,aRJ]) (fun i hi=>?_);have M:=aKP a b i;refine aA ?_;refine .seq<| .cnd (fun G=>?_) (fun O=>?_);{have G:i<N:=(by simpa using G);have Y:iN a b (i+1)=((iN a b i).1++[vJ (jP b i (jP a i (iN a b i).2))],aAL (jP b i (jP a i (iN a b i).2))):=rfl;have A:=aRI (iN a b i).1 N (vJ (jP b i (jP a i (iN a b i).2))) (by omega);have S:=aRK (iN a b i).1 N (by omega);rw[M]at A;generalize(iN a b i).2=I at*;refine aK ?_;refine .seqJ (fun _:Unit=>{tm:=[(0,aT a),(1,aT b),(5,.vec 15 1 0 N N),(7,aB i),(8,aB (jP a i I)),(17,aB N),(18,aB i)],hp:=[(15,.cells 2 (kY (iN a b i).1 N))]}) (fun _=>True) ?_ (fun U=>?_);{rintro- -;refine .seqJ (fun _:Unit=>{tm:=[(0,aT a),(1,aT b),(5,.vec 15 1 0 N N),(7,aB i),(8,aB (jP b i (jP a i I))),(17,aB N),(18,aB i)],hp:=[(15,.cells 2 (kY (iN a b i).1 N))]}) (fun _=>True) ?_ (fun U=>?_);{rintro- -;generalize jP b i (jP a i I)=sm at*;refine goX [] fun K D=>?_;simp[G,S,A,vJ,aAL];refine ck D ?_;refine goX [] fun K D=>?_;simp[G,S,A,vJ,aAL];refine ck D ?_;refine⟨i+1,by omega,by omega,?_⟩;rw[Y];simp[aC i (by omega),vJ,aAL]at A|-;rw[A];simp};{generalize jP a i I=sm at*;refine aA ?_;refine .cnd (fun o=>?_) (fun o=>?_);{have o:i<b.length:=(by simpa using o);have W:b.getD i 0=b[i]:=(by simp[o]);have J:jP b i sm=w64 (sm+b[i]):=(by unfold jP;rw[if_pos o,W]);refine goX [] fun K D=>?_;simp[o];refine ck D ?_;exact U _ () trivial (by simp[J])};have o:¬i<b.length:=(by simpa using o);have J:jP b i sm=sm:=(by unfold jP;rw[if_neg o]);refine .skip ?_;exact U _ () trivial (by simp[J])}};{refine aA ?_;refine .cnd (fun o=>?_) (fun o=>?_);{have o:i<a.length:=(by simpa using o);have W:a.getD i 0=a[i]:=(by simp[o]);have J:jP a i I=w64 (I+a[i]):=(by unfold jP;rw[if_pos o,W]);refine goX [] fun K D=>?_;simp[o];refine ck D ?_;exact U _ () trivial (by simp[J])};have o:¬i<a.length:=(by simpa using o);have J:jP a i I=I:=(by unfold jP;rw[if_neg o]);refine .skip ?_;exact U _ () trivial (by simp[J])}};have O:¬i<N:=by simpa using O
 refine .exit ?_;have L:i=N:=by omega
 have Z:kY (iN a b i).1 N=(iN a b i).1.map fun n=>AV.val (.int .i64 n):=by have:=aRL (iN a b i).1;rw[M,L]at this;rw[L];exact this
 have aa:aNA a b=dH (iN a b i).1:=by unfold aNA;rw[L,hN]
 rw[aa,Z];generalize(iN a b i).1=l at*;have ae:=uL l (by omega);have ab:∀g:Nat->Option Blk,g 15=some (.cells 2 (l.map fun n=>AV.val (.int .i64 n)))->Rsv g (.vec 15 1 0 N N) (aT l):=fun g W=>by have:=Rsv.vec1 (g:=g) (b:=15) (n:=N) (e:=2) W (nP (by intro x hx;obtain⟨n,_,rfl⟩:=List.mem_map.1 hx;rfl)) (by rw[List.length_map];omega);rw[List.map_map]at this;exact this
 refine .freeze hM [15] {tm:=[(5,aT l)],hp:=[]} ⟨rfl,by simp,⟨.inr ⟨rfl,.inr ⟨by simp[within],_,ab _ rfl,.refl _⟩⟩,trivial⟩,trivial⟩ ?_;refine goC [{r:=aT (dH l)}] ?_;exact rtC
end Go.Al
end
section
open Go Go.Aw Go.Proofs
open Tryz
namespace Go.Al
set_option maxRecDepth 100000
set_option maxRecDepth 20000
instance:FT prog f360:=.n
def G294:FnT prog f294:=.m [(1,[0,1]),(4,[0,5]),(1,[6]),(0,[12,13]),(0,[14]),(3,[7,14]),(64,[6,8]),(0,[25]),(64,[25]),(1,[6]),(0,[33]),(4,[6,33]),(1,[6]),(20,[7,8]),(0,[]),(4,[1,4,5,6,12,13])]
instance:FT prog f294:=.n
attribute [local simp] aT
set_option maxHeartbeats 1000000 in
set_option maxRecDepth 100000 in
theorem bPN (o : Option Addr) (c : Nat) (w : World) : Calls prog 360 #[.slice o 0 c] w fun e w' => (e = .returned (.slice none 0 0) /\ w' = w) \/ (e = .returned (.slice (some ⟨w.heap.size, 0, none⟩) 0 0) /\ w' = w.alloc (.cells #[] 2)) := by
  have D : (binOp BinOp.eql 45 (.slice o 0 c) (.slice none 0 0)).run prog w = .ok (.bool o.isNone) w := by
    have A : ∀ d : Nat, (Op.equalIn (d + 1) 45 (.slice o 0 c) (.slice none 0 0)).run prog w = .ok o.isNone w := by intro d; cases o <;> simp [Op.equalIn, run_underlying underlying45]
    simp [binOp, Op.equal, Op.maxDepth, A 9999]
  cases o with
  | none =>
    go_enter func360, ntmps360
    go_wp2
    go_ret
    exact .inl ⟨rfl, rfl⟩
  | some a =>
    go_enter func360, ntmps360
    go_wp2
    go_ret
    exact .inr ⟨rfl, rfl⟩
theorem aVE:Con prog 360 [.rd 1 []] (.own 2 1 []):=by refine Con.grown _ ⟨_,func360,by kernel_rfl,rfl⟩ fun fz w vs o=>?_;obtain⟨A,c,rfl⟩:=aPB o;refine(bPN A c w).mono ?_;rintro e w' (h|⟨rfl,rfl⟩);{exact .inl h};{exact .inr ⟨0,#[],rfl,Ext.alloc _ _,heap_alloc_new w _,Nat.zero_le _,rfl,by simp⟩}
theorem bPO (r:List AV) (R:List (List AV)) (o:(r::R).length<=1099511627776):Con prog 360 [.rd 1 (r::R)] (.own 2 1 (r::R)):=by
 refine Con.oc func360 fun C D E=>?_;refine aK ?_;refine .cf (by simp) ?_;have A:R.length+1<=1099511627776:=by simpa using o
 refine aA ?_;exact rtC
theorem aEN:∀l:List Int,(qZ l).flatten=l.map fun n=>AV.val (.int .i64 n)|[]=>rfl|n::l=>by have o:=aEN l;show([aB n]::qZ l).flatten=_;rw[List.flatten_cons,o];rfl
theorem bPM (l:List Int) (o:l≠[]) (E:l.length<=1099511627776):ConX prog 360 [] [.rd 1 (qZ l)] (fun m:Nat=>.vec 6 1 0 l.length (l.length+m)) (fun m=>[(6,.cells 2 ((l.map fun n=>AV.val (.int .i64 n))++List.replicate m .unk))]):=by
 have:=ConX.copy (P:=prog) (f:=360) (e:=2) (wd:=1) aVE.1 (rows:=qZ l) (by simpa[qZ]using o) (fun r G x D=>by obtain⟨n,_,rfl⟩:=List.mem_map.1 G;simp at D;subst D;exact⟨rfl,rfl⟩) fun R A _=>by cases R with|nil=>rw[List.length_nil,wR]at A;exact absurd (List.eq_nil_of_length_eq_zero A.symm) o|cons r R=>exact bPO r R (by rw[A,wR];exact E)
 have I:=aEN l;simpa[qB,I]using this
def aSB (b:List Int) (i:Nat) (x o:Int):Int×Int:=
 let n:=if i<b.length then w64 (w64 (x-o)-b.getD i 0)else w64 (x-o)
 if n<0 then(w64 (n+1000000000),1)else(n,0)
def iC (a b:List Int):Nat->List Int×Int
 |0=>([],0)
 |i+1=>((iC a b i).1++[(aSB b i (a.getD i 0) (iC a b i).2).1],(aSB b i (a.getD i 0) (iC a b i).2).2)
def pF (a b:List Int):List Int:=dH (iC a b a.length).1
theorem qI (a b:List Int):∀i,(iC a b i).1.length=i
 |0=>rfl
 |i+1=>by simp[iC,qI a b i]
def nR (a b:List Int) (m i:Nat):List AV:=((iC a b i).1.map fun n=>AV.val (.int .i64 n))++((a.drop i).map fun n=>AV.val (.int .i64 n))++List.replicate m .unk
theorem bNC (a b:List Int) (m i:Nat) (h:i<a.length):(nR a b m i)[i]? =some (.val (.int .i64 a[i])):=by have o:=qI a b i;unfold nR;rw[List.append_assoc,List.getElem?_append_right (by simp[o]),List.length_map,o,Nat.sub_self,List.drop_eq_getElem_cons h];rfl
theorem bNA (a b:List Int) (m i:Nat) (h:i<a.length):(nR a b m i).set i (.val (.int .i64 (aSB b i (a.getD i 0) (iC a b i).2).1))=nR a b m (i+1):=by have o:=qI a b i;unfold nR;rw[List.append_assoc,List.set_append_right _ _ (by simp[o]),List.length_map,o,Nat.sub_self,List.drop_eq_getElem_cons h];simp only[iC,List.map_append,List.map_cons,List.map_nil,List.append_assoc,List.cons_append,List.nil_append,List.set_cons_zero]
theorem bNB (a b:List Int) (m i:Nat) (h:i<=a.length):(nR a b m i).length=a.length+m:=by have o:=qI a b i;simp[nR,o];omega
theorem bCV (a b:List Int) (m i:Nat):aW (nR a b m i)=true:=by refine nP fun x o=>?_;rcases List.mem_append.1 o with o|o;{rcases List.mem_append.1 o with o|o;{obtain⟨n,_,rfl⟩:=List.mem_map.1 o;rfl};{obtain⟨n,_,rfl⟩:=List.mem_map.1 o;rfl}};{rw[List.eq_of_mem_replicate o];rfl}
@[simp] theorem cII (a b:List Int) (m i:Nat) (ids:List Nat):bD ids (nR a b m i)=true:=aN ids _ (bCV a b m i)
end Go.Al
end
section
namespace Go.Al
open Go.Aw Go
def eZ (l:List Int):Prop:=∀x∈l,0<=x/\x<1000000000
theorem xF:eZ []:=fun x o=>by cases o
theorem qK {l:List Int} (h:eZ l):eZ (dH l):=fun x o=>h x (List.mem_of_mem_take o)
theorem aLJ {l:List Int} {x:Int} (h:eZ l) (h1:0<=x) (A:x<1000000000):eZ (l++[x]):=fun y o=>by rcases List.mem_append.1 o with o|o;{exact h y o};simp_all
theorem aZW {l:List Int} {x:Int} (h:eZ l) (h1:0<=x) (A:x<1000000000):eZ (x::l):=fun y o=>by rcases List.mem_cons.1 o with rfl|o;{omega};{exact h y o}
theorem bIS {l:List Int} {i:Nat} {x:Int} (h:eZ l) (h1:0<=x) (A:x<1000000000):eZ (l.set i x):=fun y o=>by rcases List.mem_or_eq_of_mem_set o with o|rfl;{exact h y o};omega
theorem jZ {l:List Int} (h:eZ l) (i:Nat):0<=l.getD i 0/\l.getD i 0<1000000000:=by by_cases hi:i<l.length;{rw[List.getD_eq_getElem?_getD,List.getElem?_eq_getElem hi];exact h _ (List.getElem_mem hi)};simp[*]
theorem aTJ (n:Nat):eZ (List.replicate n 0):=fun x o=>by simp_all
theorem vF {n:Int} (h1: -9223372036854775808<=n) (o:n<=9223372036854775807):w64 n=n:=bH h1 o
theorem aKM {n:Int} (h:0<=n):0<=vJ n/\vJ n<1000000000:=by grind [vJ,Int.tmod_eq_emod_of_nonneg]
theorem bCJ {n:Int} (h:0<=n) (o:n<=9223372036854775807):aAL n=n/1000000000:=by grind [aAL,Int.tdiv_eq_ediv_of_nonneg,vF]
theorem pZ (l:List Int):(dH l).length<=l.length:=by grind [dH]
theorem aEA (d:ByteArray) (o:∀i,i<d.size->48<=chr d i/\chr d i<=57):∀ (c i:Nat) (n:Int) (k:Nat),i+c<=d.size->0<=n->n<(10 ^ k:Nat)->0<=aOH d c i n/\aOH d c i n<(10 ^ (k+c):Nat)|0,i,n,k,_,h1,A=>⟨h1,A⟩|c+1,i,n,k,h,h1,A=>by have:=o i (by omega);have hp:(10 ^ (k+1):Nat)=10*10 ^ k:=(by rw[Nat.pow_succ];omega);have D:=aEA d o c (i+1) (10*n+(chr d i-48)) (k+1) (by omega) (by omega) (by rw[hp];generalize(10 ^ k:Nat)=B at*;omega);grind [aOH]
theorem aND (d:ByteArray) (o:∀i,i<d.size->48<=chr d i/\chr d i<=57):∀ (m e:Nat),e<=d.size->eZ (gV d m e)|0,e,_=>xF|m+1,e,he=>by rw[gV];split;{exact xF};{have h:=aEA d o (e-(e-9)) (e-9) 0 0 (by omega) (by omega) (by simp);have hp:(10 ^ (0+(e-(e-9))):Nat)<=10 ^ 9:=Nat.pow_le_pow_right (by omega) (by omega);exact aZW (aND d o m (e-9) (by omega)) h.1 (by omega)}
theorem cCR {s:ByteArray} (o:∀i,i<(fG s).size->48<=chr (fG s) i/\chr (fG s) i<=57):eZ (ofB s).parts:=qK (aND _ o _ _ (Nat.le_refl _))
theorem aOF {l:List Int} (h:eZ l) (i:Nat) {n M:Int} (o:0<=n) (h1:n<=M) (A:M<=1000000000000):0<=jP l i n/\jP l i n<=M+999999999:=by have:=jZ h i;grind [jP,vF]
theorem aRH {a b:List Int} (o:eZ a) (A:eZ b):∀i,eZ (iN a b i).1/\0<=(iN a b i).2/\(iN a b i).2<=1|0=>⟨xF,by simp[iN],by simp[iN]⟩|i+1=>by obtain⟨h1,D,E⟩:=aRH o A i;have e1:=aOF o i D E (by omega);have G:=aOF A i e1.1 e1.2 (by omega);grind [iN,jP,aKM,bCJ,aLJ]
theorem bMK {a b:List Int} (o:eZ a) (A:eZ b):eZ (aNA a b):=qK (aRH o A _).1
theorem bMZ {b:List Int} (D:eZ b) (i:Nat) {x o:Int} (h1:0<=x) (E:x<1000000000) (G:0<=o) (I:o<=1):(0<=(aSB b i x o).1/\(aSB b i x o).1<1000000000)/\0<=(aSB b i x o).2/\(aSB b i x o).2<=1:=by
 have J:=jZ D i;have A:∃n,n=(if i<b.length then w64 (w64 (x-o)-b.getD i 0)else w64 (x-o)):=⟨_,rfl⟩;obtain⟨n,A⟩:=A;have K: -1000000000<=n/\n<1000000000:=by rw[A];split;{rw[vF (n:=x-o) (by omega) (by omega),vF (by omega) (by omega)];omega};{rw[vF (n:=x-o) (by omega) (by omega)];omega}
 have he:aSB b i x o=if n<0 then(w64 (n+1000000000),1)else(n,0):=by rw[A];rfl
 grind [vF]
theorem aNH {a b:List Int} (o:eZ a) (A:eZ b):∀i,eZ (iC a b i).1/\0<=(iC a b i).2/\(iC a b i).2<=1|0=>⟨xF,by simp[iC],by simp[iC]⟩|i+1=>by obtain⟨h1,D,E⟩:=aNH o A i;grind [jZ,bMZ,iC,aLJ]
theorem aNI {a b:List Int} (o:eZ a) (A:eZ b):eZ (pF a b):=qK (aNH o A _).1
theorem aSA (a b:List Int):(pF a b).length<=a.length:=by have:=pZ (iC a b a.length).1;rw[qI]at this;exact this
theorem bUZ (a b:List Int):(aNA a b).length<=max a.length b.length+1:=by have:=pZ (iN a b (max a.length b.length+1)).1;rw[aKP]at this;exact this
def sD (a b:List Int):Nat->Int
 |0=>0
 |n+1=>if a.getD n 0=b.getD n 0 then sD a b n else dO (a.getD n 0) (b.getD n 0)
def pC (a b:List Int):Int:=if a.length=b.length then sD a b a.length else dO a.length b.length
def iA (a b:List Int):Nat->Nat
 |0=>0
 |n+1=>if a.getD n 0=b.getD n 0 then iA a b n+1 else 0
theorem bJD (a b:List Int):∀n,iA a b n<=n
 |0=>Nat.le_refl _
 |n+1=>by unfold iA;split;have:=bJD a b n;omega;omega
theorem aTQ (a b:List Int):∀n k,k<iA a b n->a.getD (n-1-k) 0=b.getD (n-1-k) 0
 |0,k,h=>by grind [iA]
 |n+1,k,h=>by unfold iA at h;split at h;{rename_i e;cases k with|zero=>exact e|succ k=>have:=aTQ a b n k (by omega);grind};{omega}
theorem aIK (a b:List Int):∀n,iA a b n<n->a.getD (n-1-iA a b n) 0≠b.getD (n-1-iA a b n) 0/\sD a b n=dO (a.getD (n-1-iA a b n) 0) (b.getD (n-1-iA a b n) 0)
 |0,h=>by omega
 |n+1,h=>by by_cases e:a.getD n 0=b.getD n 0;{have e1:iA a b (n+1)=iA a b n+1:=(by rw[iA,if_pos e]);rw[e1]at h|-;have:=aIK a b n (by omega);rw[show n+1-1-(iA a b n+1)=n-1-iA a b n by omega,sD,if_pos e];exact this};simp_all [iA,if_neg,sD]
theorem bAE (a b:List Int):∀n,iA a b n=n->sD a b n=0|0,_=>rfl|n+1,h=>by unfold iA at h;split at h;{rename_i e;rw[sD,if_pos e];exact bAE a b n (by omega)};{omega}
def qN (a b:nJ):nJ:=
 if a.neg=b.neg then⟨a.neg,aNA a.parts b.parts⟩else if 0<=pC a.parts b.parts then⟨a.neg,pF a.parts b.parts⟩else⟨b.neg,pF b.parts a.parts⟩
def oG (a:nJ):nJ:=⟨!a.neg,a.parts⟩
theorem aCW {a b:nJ} (o:eZ a.parts) (A:eZ b.parts):eZ (qN a b).parts:=by grind [qN,bMK,aNI]
theorem bKC (a b:nJ):(qN a b).parts.length<=max a.parts.length b.parts.length+1:=by grind [qN,bUZ,aSA]
def pE (p:List Int) (i:Nat):List UInt8:=if i+1<p.length then List.replicate (9-(Lib.itoa (p.getD i 0)).length) 48++Lib.itoa (p.getD i 0)else Lib.itoa (p.getD i 0)
def mR (p:List Int):Nat->List UInt8
 |0=>[]
 |k+1=>mR p k++pE p (p.length-1-k)
def oI (p:List Int):List UInt8:=mR p p.length
def fP (x:nJ):ByteArray×Int:=
 if x.parts=[]then(⟨#[48]⟩,0)else if 200<(oI x.parts).length then(⟨#[]⟩,80)else if x.neg=true then(⟨(45::oI x.parts).toArray⟩,0)else(⟨(oI x.parts).toArray⟩,0)
def un2 (f:nJ->nJ->ByteArray×Int) (a b:ByteArray):ByteArray×Int:=if cX a=0 then(if cX b=0 then f (ofB a) (ofB b)else(⟨#[]⟩,cX b))else(⟨#[]⟩,cX a)
def uD:ByteArray->ByteArray->ByteArray×Int:=un2 fun x y=>fP (qN x y)
def bBZ:ByteArray->ByteArray->ByteArray×Int:=un2 fun x y=>fP (qN x (oG y))
def qH (a:ByteArray):ByteArray×Int:=if cX a=0 then fP (oG (ofB a))else(⟨#[]⟩,cX a)
def mulIn (p:Int) (y:List Int) (i:Nat) (out:List Int):Nat->List Int×Int
 |0=>(out,0)
 |j+1=>((mulIn p y i out j).1.set (i+j) (vJ (mulAt p y j (w64 ((mulIn p y i out j).1.getD (i+j) 0+(mulIn p y i out j).2)))),aAL (mulAt p y j (w64 ((mulIn p y i out j).1.getD (i+j) 0+(mulIn p y i out j).2))))
where mulAt (p:Int) (y:List Int) (j:Nat) (n:Int):Int:=if j<y.length then w64 (n+w64 (p*y.getD j 0))else n
def nQ (x y:List Int):Nat->List Int
 |0=>List.replicate (x.length+y.length) 0
 |i+1=>(mulIn (x.getD i 0) y i (nQ x y i) (x.length+y.length-i)).1
def aVX (x y:List Int):List Int:=dH (nQ x y x.length)
theorem bQO {a b:Int} (h1:0<=a) (A:a<=1000000000) (o:0<=b) (D:b<1000000000):0<=a*b/\a*b<=999999999000000000:=by constructor;{exact Int.mul_nonneg h1 o};{have e1:a*b<=1000000000*b:=Int.mul_le_mul_of_nonneg_right A o;omega}
theorem bHR {p:Int} {y:List Int} (hp:0<=p) (o:p<=1000000000) (D:eZ y) (j:Nat) {n:Int} (E:0<=n) (h1:n<=2000000000):0<=mulIn.mulAt p y j n/\mulIn.mulAt p y j n<=999999999000000000+n:=by have A:=jZ D j;have hm:=bQO hp o A.1 A.2;grind [mulIn.mulAt,vF]
theorem aRV {p:Int} {y out:List Int} (i:Nat) (hp:0<=p) (o:p<1000000000) (A:eZ y) (D:eZ out):∀j,eZ (mulIn p y i out j).1/\0<=(mulIn p y i out j).2/\(mulIn p y i out j).2<=1000000000|0=>⟨D,by simp[mulIn],by simp[mulIn]⟩|j+1=>by obtain⟨h1,E,G⟩:=aRV i hp o A D j;have I:=jZ h1 (i+j);simp only[mulIn];rw[vF (n:=(mulIn p y i out j).1.getD (i+j) 0+(mulIn p y i out j).2) (by omega) (by omega)];have J:=bHR hp (by omega) A j (n:=(mulIn p y i out j).1.getD (i+j) 0+(mulIn p y i out j).2) (by omega) (by omega);grind [mulIn.mulAt,mulIn,aKM,bCJ,bIS]
theorem aKV (p:Int) (y:List Int) (i:Nat) (out:List Int):∀j,(mulIn p y i out j).1.length=out.length
 |0=>rfl
 |j+1=>by simp only[mulIn,List.length_set];exact aKV p y i out j
theorem aEU (x y:List Int):∀i,(nQ x y i).length=x.length+y.length
 |0=>by simp[nQ]
 |i+1=>by rw[nQ,aKV,aEU x y i]
theorem aNG {x y:List Int} (o:eZ x) (A:eZ y):∀i,eZ (nQ x y i)|0=>aTJ _|i+1=>(aRV i (jZ o i).1 (jZ o i).2 A (aNG o A i) _).1
theorem aYM {x y:List Int} (o:eZ x) (A:eZ y):eZ (aVX x y):=qK (aNG o A _)
theorem cDA (x y:List Int):(aVX x y).length<=x.length+y.length:=by have:=pZ (nQ x y x.length);rw[aEU]at this;exact this
def bCT:ByteArray->ByteArray->ByteArray×Int:=un2 fun x y=>fP ⟨!(x.neg==y.neg),aVX x.parts y.parts⟩
def timesS (a:List Int) (n:Int):Nat->List Int×Int
 |0=>([],0)
 |i+1=>((timesS a n i).1++[vJ (tmAt a n i (timesS a n i).2)],aAL (tmAt a n i (timesS a n i).2))
where tmAt (a:List Int) (n:Int) (i:Nat) (c:Int):Int:=if i<a.length then w64 (c+w64 (a.getD i 0*n))else c
def lO (a:List Int) (n:Int):List Int:=dH (timesS a n (a.length+1)).1
theorem aED (a:List Int) (n:Int):∀i,(timesS a n i).1.length=i
 |0=>rfl
 |i+1=>by simp[timesS,aED a n i]
theorem aPX (a:List Int) (n:Int):(lO a n).length<=a.length+1:=by have:=pZ (timesS a n (a.length+1)).1;rw[aED]at this;exact this
theorem aMO {a:List Int} {n:Int} (o:eZ a) (A:0<=n) (h1:n<=1000000000):∀i,eZ (timesS a n i).1/\0<=(timesS a n i).2/\(timesS a n i).2<=1000000000|0=>⟨xF,by simp[timesS],by simp[timesS]⟩|i+1=>by obtain⟨E,G,I⟩:=aMO o A h1 i;have D:=jZ o i;have hm:=bQO A h1 D.1 D.2;rw[Int.mul_comm]at hm;have J:0<=timesS.tmAt a n i (timesS a n i).2/\timesS.tmAt a n i (timesS a n i).2<=999999999000000000+1000000000:=(by unfold timesS.tmAt;split;{rw[vF (n:=a.getD i 0*n) (by omega) (by omega),vF (by omega) (by omega)];omega};{omega});grind [timesS,timesS.tmAt,aKM,bCJ,aLJ]
theorem bFZ {a:List Int} {n:Int} (o:eZ a) (A:0<=n) (h1:n<=1000000000):eZ (lO a n):=qK (aMO o A h1 _).1
def bis (b r:List Int):Nat->Int->Int->Int
 |0,o,_=>o
 |f+1,o,hi=>if 1<hi-o then(if pC (lO b ((o+hi)/2)) r<=0 then bis b r f ((o+hi)/2) hi else bis b r f o ((o+hi)/2))else o
theorem aLW (b r:List Int):∀f o hi,0<=o->o<hi->hi<=1000000000->0<=bis b r f o hi/\bis b r f o hi<1000000000
 |0,o,hi,h1,D,A=>by grind [bis]
 |f+1,o,hi,h1,D,A=>by simp only[bis];split;{split;{exact aLW b r f _ _ (by omega) (by omega) A};{exact aLW b r f _ _ h1 (by omega) (by omega)}};{omega}
def ovR (x:Int) (r:List Int):List Int:=dH (x::r)
def ovQ (b:List Int) (r:List Int):Int:=bis b r 30 0 1000000000
def iF (a b:List Int):Nat->List Int×List Int
 |0=>(List.replicate a.length 0,[])
 |k+1=>((iF a b k).1.set (a.length-1-k) (ovQ b (ovR (a.getD (a.length-1-k) 0) (iF a b k).2)),
  pF (ovR (a.getD (a.length-1-k) 0) (iF a b k).2) (lO b (ovQ b (ovR (a.getD (a.length-1-k) 0) (iF a b k).2))))
def tL (a b:List Int):List Int×List Int:=(dH (iF a b a.length).1,(iF a b a.length).2)
theorem bQW (x:Int) (r:List Int):(ovR x r).length<=r.length+1:=pZ (x::r)
theorem aCF (a b:List Int):∀k,(iF a b k).1.length=a.length/\(iF a b k).2.length<=k
 |0=>by simp[iF]
 |k+1=>by have o:=aCF a b k;grind [iF,List.length_set,Nat.le_trans,aSA,bQW]
theorem aEO {a b:List Int} (A:eZ a) (D:eZ b):∀k,eZ (iF a b k).1/\eZ (iF a b k).2|0=>⟨aTJ _,xF⟩|k+1=>by have E:=aEO A D k;have G:=jZ A (a.length-1-k);simp only[iF];generalize a.getD (a.length-1-k) 0=x at*;have o:0<=ovQ b (ovR x (iF a b k).2)/\ovQ b (ovR x (iF a b k).2)<1000000000:=aLW b _ 30 0 1000000000 (by omega) (by omega) (by omega);exact⟨bIS E.1 o.1 o.2,aNI (qK (aZW E.2 G.1 G.2)) (bFZ D o.1 (by omega))⟩
def nH (x y:nJ):nJ×nJ×Int:=if y.parts=[]then(⟨false,[]⟩,⟨false,[]⟩,81)else(⟨!(x.neg==y.neg),(tL x.parts y.parts).1⟩,⟨x.neg,(tL x.parts y.parts).2⟩,0)
def bDZ:ByteArray->ByteArray->ByteArray×Int:=un2 fun x y=>if(nH x y).2.2=0 then fP (nH x y).1 else(⟨#[]⟩,(nH x y).2.2)
def bCU:ByteArray->ByteArray->ByteArray×Int:=un2 fun x y=>if(nH x y).2.2=0 then fP (nH x y).2.1 else(⟨#[]⟩,(nH x y).2.2)
theorem bMO {a b:List Int} (o:eZ a) (A:eZ b):eZ (tL a b).1/\eZ (tL a b).2:=⟨qK (aEO o A _).1,(aEO o A _).2⟩
theorem bVG (a b:List Int):(tL a b).1.length<=a.length/\(tL a b).2.length<=a.length:=by have:=aCF a b a.length;exact⟨by rw[<-this.1];exact pZ _,this.2⟩
end Go.Al
end
