/- The program: are two values, expressions, plans the same? Texts in lists. -/
import Derived.Test.YtackjebfmbnkbaaGreatDoorP24
import Derived.WalkKit
import Derived.BigCall
import Derived.BigGuard
import Derived.Test.YtackjebfmbnkbaaGreatDoorChecked
import Derived.Test.YtackjebfmbnkbaaGreatDoorP20
set_option linter.unusedSimpArgs false
set_option linter.unusedVariables false
set_option linter.unusedSectionVars false
section
open Go Go.Aw Go.Proofs
open Tryz
namespace Go.Al
set_option maxRecDepth 100000
instance:FT prog f75:=.n
instance:FT prog f65:=.n
instance:FT prog f66:=.n
instance:FT prog f37:=.n
attribute [local simp] aP aV bG aM bK cA aBK aR lL aZ
attribute [local simp] aO
theorem bFC (l:List ByteArray) (s:ByteArray) (L:l.length<=4194304):Con prog 75 [aR l,aE s] (aB (fid (fun x=>decide (s=x)) l 0)):=by
 refine Con.oc func75 fun C M O=>?_;refine aK ?_;refine .block<| .loopG (fun k:Nat=>{tm:=[(0,aR l),(1,aE s),(7,aB l.length),(8,aB k)],hp:=[]}) (fun k=>k<=l.length/\fid (fun x=>decide (s=x)) l 0=fid (fun x=>decide (s=x)) (l.drop k) k) (fun k=>l.length-k) 0 ⟨by omega,by simp⟩ (by simp) (fun k hk=>?_);obtain⟨J,A⟩:=hk;refine aA ?_;refine .seq<| .cnd (fun o=>?_) (fun D=>?_);{have o:k<l.length:=(by simpa using o);have I:=jI (fun x=>decide (s=x)) l k o;refine goX [] fun K E=>?_;simp[o];refine E _ ?_;refine goX [] fun K E=>?_;simp[o];refine ck E ?_;refine .cnd (fun G=>?_) (fun G=>?_);{refine aA ?_;refine .re ?_;refine .clos ?_ rfl;rw[A,I,if_pos G];rfl};refine aA ?_;refine⟨k+1,⟨by omega,by rw[A,I,if_neg (by simp[G])]⟩,by omega,?_⟩;simp[aC k (by omega)]};have D:¬k<l.length:=by simpa using D
 refine .exit ?_;refine aA ?_;refine .re ?_;refine .clos ?_ rfl;rw[A,List.drop_eq_nil_of_le (by omega)];rfl
theorem cKL (l:List ByteArray) (s:ByteArray):(l.any fun x=>decide (s=x))=has l s:=by unfold has;congr 1;funext x;exact decide_eq_decide.2 ⟨Eq.symm,Eq.symm⟩
theorem oE (l:List ByteArray) (s:ByteArray) (o:l.length<=4194304):Con prog 65 [aR l,aE s] (aD (has l s)):=by have h1:=bFC l s o;have A:=mL (fun x=>decide (s=x)) l 0;refine Con.oc func65 fun C D E=>?_;refine aA ?_;refine goC [{r:=aB (fid (fun x=>decide (s=x)) l 0)}] ?_;refine .re ?_;refine .clos ?_ rfl;rw[<-cKL,<-A];simp
theorem cIC (l:List ByteArray) (o:l.length<=4194304):Con prog 66 [aR l] (.fx 1 (aZ l)):=by refine Con.oc func66 fun C A D=>?_;refine aK ?_;refine .re ?_;refine .clos ?_ rfl;simp;exact List.take_of_length_le (by simp)
theorem bPG (s:ByteArray) (l:List ByteArray) (o:(s::l).length<=4194304):Con prog 37 [aR (s::l)] (aR (s::l)):=by
 refine Con.oc func37 fun C D E=>?_;refine aK ?_;refine .cf (by simp) ?_;have A:l.length+1<=4194304:=by simpa using o
 refine aA ?_;refine .re ?_;exact .own
set_option maxHeartbeats 1000000 in
set_option maxRecDepth 100000 in
theorem bZN (o : Option Addr) (c : Nat) (w : World) : Calls prog 37 #[.slice o 0 c] w fun e w' => (∃ a n, e = .returned (.slice a 0 n)) /\ Ext w w' := by
  have D : (binOp BinOp.eql 24 (.slice o 0 c) (.slice none 0 0)).run prog w = .ok (.bool o.isNone) w := by
    have A : ∀ d : Nat, (Op.equalIn (d + 1) 24 (.slice o 0 c) (.slice none 0 0)).run prog w = .ok o.isNone w := by intro d; cases o <;> simp [Op.equalIn, run_underlying underlying24]
    simp [binOp, Op.equal, Op.maxDepth, A 9999]
  cases o with
  | none =>
    go_enter func37, ntmps37
    go_wp2
    go_ret
    exact ⟨⟨_, _, rfl⟩, Ext.refl _⟩
  | some a =>
    go_enter func37, ntmps37
    go_wp2
    go_ret
    exact ⟨⟨_, _, rfl⟩, Ext.alloc _ _⟩
theorem bPH:Con prog 37 [aR []] (aR []):=by
 refine⟨⟨_,func37,by kernel_rfl,rfl⟩,fun fz w vs A _ D=>?_⟩;obtain⟨E,c,rfl⟩:∃E c,vs= #[.slice E 0 c]:=by simp only[HoldsL,aR,aZ,List.map_nil,Holds]at D;obtain⟨v,r,e,⟨E,c,rfl,_⟩,rfl⟩:=D;exact⟨E,c,Array.toList_inj.1 (by simpa using e)⟩
 refine(bZN E c w).mono ?_;rintro e w' ⟨⟨a,n,rfl⟩,G⟩;exact⟨_,fz,rfl,G,Fz.le_refl _,⟨fun c o u hu=>G.cell (A.1 c o u hu),fun c o I=>G.heap (A.2 c o I)⟩,fun _ _=>⟨fun _=>rfl,rfl⟩,by simp[Holds,aR,aZ],fun el wd rows J=>by cases J⟩
theorem cMV (l:List ByteArray) (o:l.length<=4194304):Con prog 37 [aR l] (aR l):=by cases l with|nil=>exact bPH|cons s l=>exact bPG s l o
end Go.Al
end
section
open Go Go.Aw Go.Proofs
open Tryz
namespace Go.Al
set_option maxRecDepth 100000
set_option maxRecDepth 20000
instance:FT prog f223:=.n
attribute [local simp] aT
theorem aOD (p:Int->Bool) (s:ByteArray):∀ (n k:Nat),k+n=s.size->dE p s k=true-> ∀i,k<=i->i<s.size->p (chr s i)=true
 |0,k,hk,_,i,h1,o=>by omega
 |n+1,k,hk,h,i,h1,o=>by rw[iD p s k (by omega),Bool.and_eq_true]at h;by_cases e:i=k;{subst e;exact h.1};{exact aOD p s n (k+1) (by omega) h.2 i (by omega) o}
theorem tY {s:ByteArray} (h:cX s=0):∀i,i<(fG s).size->48<=chr (fG s) i/\chr (fG s) i<=57:=by intro i hi;unfold cX at h;split at h;{cases h};{split at h;{rename_i h1;have:=aOD nI (fG s) (fG s).size 0 (by omega) h1 i (by omega) hi;simpa[nI]using this};{cases h}}
def aVI:nJ:=⟨false,[]⟩
def jJ (a b:ByteArray):nJ×nJ×Int:=if ¬cX a=0 then(aVI,aVI,cX a)else if ¬cX b=0 then(aVI,aVI,cX b)else(ofB a,ofB b,0)
theorem aPJ (a b:ByteArray) (G:a.size<=1099511627776) (I:b.size<=1099511627776):Con prog 223 [aE a,aE b] (.tup [jV (jJ a b).1,jV (jJ a b).2.1,aB (jJ a b).2.2]):=by
 have h1:=vA a G;have M:=vA b I;refine Con.oc func223 fun C O S=>?_;refine aK ?_;refine .block<| .loopG (fun k:Nat=>{tm:=[(0,aE a),(1,aE b),(4,.ptr 4 0),(5,.ptr 5 0),(12,.agg [aE a,aE b]),(13,aB k)],hp:=[(4,.cells 259 [aD false,.val (.slice none 0 0)]),(5,.cells 259 [aD false,.val (.slice none 0 0)])]}) (fun k=>k<=2/\(0<k->cX a=0)/\(1<k->cX b=0)) (fun k=>2-k) 0 ⟨by omega,by omega,by omega⟩ (by simp) (fun k hk=>?_);obtain⟨U,E,J⟩:=hk;have A:k=0\/k=1\/k=2:=by omega
 rcases A with rfl|rfl|rfl;{refine aA ?_;refine .seq<| .ct (by simp) ?_;refine aA ?_;refine goC [{r:=aB (cX a)}] ?_;refine aA ?_;refine .cnd (fun o=>?_) (fun o=>?_);{have o:¬cX a=0:=(by simpa using o);have D:jJ a b=(aVI,aVI,cX a):=(by unfold jJ;rw[if_pos o]);rw[D];refine aA ?_;refine .re ?_;exact .tup (.cons (.agg (.cons (.closed rfl) (.cons .nil .nil))) (.cons (.agg (.cons (.closed rfl) (.cons .nil .nil))) (.cons (.closed rfl) .nil)))};have o:cX a=0:=(by simpa using o);refine aA ?_;exact⟨1,⟨by omega,fun _=>o,by omega⟩,by omega,by simp;rfl⟩};{refine aA ?_;refine .seq<| .ct (by simp) ?_;refine aA ?_;refine goC [{r:=aB (cX b)}] ?_;refine aA ?_;refine .cnd (fun o=>?_) (fun o=>?_);{have o:¬cX b=0:=(by simpa using o);have D:jJ a b=(aVI,aVI,cX b):=(by unfold jJ;rw[if_neg (by simp[E]),if_pos o]);rw[D];refine aA ?_;refine .re ?_;exact .tup (.cons (.agg (.cons (.closed rfl) (.cons .nil .nil))) (.cons (.agg (.cons (.closed rfl) (.cons .nil .nil))) (.cons (.closed rfl) .nil)))};have o:cX b=0:=(by simpa using o);refine aA ?_;exact⟨2,⟨by omega,fun _=>E (by omega),fun _=>o⟩,by omega,by simp;rfl⟩};{refine aA ?_;refine .seq<| .cf (by simp) ?_;refine .exit ?_;have c1:=E (by omega);have c2:=J (by omega);have o1:=cCP a G (tY c1);have o2:=cCP b I (tY c2);have D:jJ a b=(ofB a,ofB b,0):=(by unfold jJ;rw[if_neg (by simp[c1]),if_neg (by simp[c2])]);rw[D];simp only[jV]at o1 o2;refine goX [{r:=jV (ofB a)},{r:=jV (ofB b)}] fun K L=>?_;simp[jV];refine ck L ?_;exact rtC}
end Go.Al
end
