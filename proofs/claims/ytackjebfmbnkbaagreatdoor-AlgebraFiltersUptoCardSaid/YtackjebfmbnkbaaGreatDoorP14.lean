/- The document's values: may one be? -/
import Derived.Test.YtackjebfmbnkbaaGreatDoorProg
import Derived.Test.YtackjebfmbnkbaaGreatDoorP13
set_option linter.unusedSimpArgs false
set_option linter.unusedVariables false
set_option linter.unusedSectionVars false
open Go Go.Aw Go.Proofs
open Tryz
namespace Go.Al
variable [DR]
set_option maxRecDepth 100000
theorem eI {f:FuncId} {ts:List AV} {r:AV} (h:Con prog f ts r):f<1000000/\ ¬999999<f:=by
 obtain⟨⟨fn,h,_⟩,_⟩:=h;have h1:=(Array.getElem?_eq_some_iff.1 h).1;have o:prog.funcs.size=451:=by kernel_rfl
 grind
instance:FT prog f372:=.n
instance:FT prog f302:=.n
instance:FT prog f249:=.n
instance:FT prog f248:=.n
instance:FT prog f250:=.n
theorem aYV (c:Int):Con prog 372 [dC c] (aD (jQ c)):=by refine Con.oc func372 fun C o A=>?_;refine aK ?_;refine .ret ⟨.inr rfl,_,by simp[results372]<;>rfl,?_⟩;exact .clos (by simp[jQ]) rfl
theorem bFB (s:ByteArray) (S:s.size<=1099511627776):Con prog 302 [aE s] (aD (oS s)):=by
 have I:=aYV (chr s 0);refine Con.oc func302 fun C U W=>?_;refine aA ?_;refine goX [{r:=aD (jQ (chr s 0))}] fun K J=>?_;simp;(repeat first|refine ob ?_ |refine⟨fun h _=>lQ h,?_⟩|refine⟨by intros;exact aX rfl I,?_⟩);refine J _ ?_;refine .cnd (fun h1=>?_) (fun h1=>?_);{refine aA ?_;refine .re ?_;refine .clos ?_ rfl;have:oS s=false:=(by unfold oS;by_cases a:s=⟨#[]⟩;{simp[a]};{by_cases b:(32:Int)<s.size;{simp[show ¬s.size<=32 by omega]};{simp[a,b]at h1;simp[h1]}});rw[this];rfl};have L:oS s=dE iG s 0:=by unfold oS;by_cases a:s=⟨#[]⟩;{simp[a]at h1};{by_cases b:(32:Int)<s.size;{simp[a,b]at h1};{simp[a,b]at h1;simp[h1,a,show s.size<=32 by omega]}}
 rw[L];refine aA ?_;refine .block<| .loopG (fun k:Nat=>{tm:=[(0,aE s),(3,aB k)],hp:=[]}) (fun k=>k<=s.size/\dE iG s 0=dE iG s k) (fun k=>s.size-k) 0 ⟨by omega,rfl⟩ (by simp) (fun k hk=>?_);obtain⟨M,A⟩:=hk;refine aA ?_;refine .cnd (fun o=>?_) (fun E=>?_);{have o:k<s.size:=(by simpa using o);have G:=iD iG s k o;have O:=aYV (chr s k);refine goX [] fun K J=>?_;simp[o];refine ck J ?_;refine goC [{r:=aD (jQ (chr s k))}] ?_;refine .cnd (fun D=>?_) (fun D=>?_);{have D:iG (chr s k)=false:=(by unfold iG;cases h:jQ (chr s k)<;>simp[h]at D|-;omega);refine aA ?_;refine .re ?_;rw[A,G,D];exact .closed rfl};have D:iG (chr s k)=true:=(by unfold iG;cases h:jQ (chr s k)<;>simp[h]at D|-;omega);refine aA ?_;refine⟨k+1,⟨by omega,by rw[A,G,D];rfl⟩,by omega,?_⟩;simp[aC k (by omega)]};have E:¬k<s.size:=by simpa using E
 refine .exit ?_;refine aA ?_;refine .re ?_;rw[A,rO iG s k (by omega)];exact .closed rfl
theorem cHN (s:ByteArray) (J:s.size<=1099511627776):Con prog 249 [aE s] (aD (xR s)):=by
 refine Con.oc func249 fun C W Y=>?_;refine aK ?_;refine .cnd (fun h1=>?_) (fun h1=>?_);{refine aA ?_;refine .re ?_;refine .clos ?_ rfl;have:xR s=false:=(by unfold xR;simp[aXK,aJZ]at h1|-;rcases h1 with h|h<;>simp[h]);rw[this];rfl};have L:xR s=(if dL s 0<s.size then oS (s.extract 0 (dL s 0))&&oS (s.extract (dL s 0+1) s.size)else oS s):=by unfold xR;simp only[aXK,aJZ];simp at h1;simp[h1]
 rw[L];have M:=aFL s s.size 0 (by omega);refine aA ?_;refine .block<| .loopG (fun k:Nat=>{tm:=[(0,aE s),(3,aB k)],hp:=[]}) (fun k=>k<=s.size/\dL s 0=dL s k) (fun k=>s.size-k) 0 ⟨by omega,rfl⟩ (by simp) (fun k hk=>?_);obtain⟨O,D⟩:=hk;refine aA ?_;refine .cnd (fun o=>?_) (fun E=>?_);{have o:k<s.size:=(by simpa using o);have A:=zA s k o;refine goX [] fun K I=>?_;simp[o];refine ck I ?_;refine .cnd (fun G=>?_) (fun G=>?_);{have G:chr s k=46:=(by simpa using G);rw[if_pos G]at A;rw[D,A,if_pos o];have S:=bFB (s.extract 0 k) (by rw[<-dQ,kM,List.length_take,List.length_drop,dQ];omega);have U:=bFB (s.extract (k+1) s.size) (by rw[<-dQ,kM,List.length_take,List.length_drop,dQ];omega);refine goX [{r:=aD (oS (s.extract 0 k))},{r:=aD (oS (s.extract (k+1) s.size))}] fun K I=>?_;simp[aC k (by omega)];refine ck I ?_;exact rtC};have G:¬chr s k=46:=(by simpa using G);rw[if_neg G]at A;refine aA ?_;refine⟨k+1,⟨by omega,by rw[D,A]⟩,by omega,?_⟩;simp[aC k (by omega)]};have E:¬k<s.size:=by simpa using E
 have Z:=bFB s J;refine .exit ?_;rw[D,aBM s k (by omega),if_neg E];refine goC [{r:=aD (oS s)}] ?_;exact rtC
theorem bZJ (s:ByteArray) (A:0<s.size) (D:s.size<=1099511627776):Con prog 250 [aE s] (aB (mW s)):=by
 refine Con.oc func250 fun C E G=>?_;refine goX [] fun K o=>?_;simp[A];refine o _ ?_;refine goX [] fun K o=>?_;simp[A];refine ck o ?_;refine .cnd (fun h1=>?_) (fun h1=>?_);{have h1:chr s 0=45:=(by simpa using h1);refine aA ?_;refine .re ?_;refine .clos ?_ rfl;simp[mW,h1];rw[bH (by omega) (by omega)]};have h1:¬chr s 0=45:=by simpa using h1
 refine aA ?_;refine .re ?_;refine .clos ?_ rfl;simp[mW,h1]
end Go.Al
