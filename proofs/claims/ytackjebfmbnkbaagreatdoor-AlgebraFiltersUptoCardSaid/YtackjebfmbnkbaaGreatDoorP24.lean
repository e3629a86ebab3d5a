/- The library's searches in lists; all, deepest. -/
import Derived.Test.YtackjebfmbnkbaaGreatDoorP18
set_option linter.unusedSimpArgs false
set_option linter.unusedVariables false
set_option linter.unusedSectionVars false
open Go Go.Aw Go.Proofs
open Tryz
namespace Go.Al
set_option maxRecDepth 100000
instance:FT prog f142:=.n
instance:FT prog f102:=.n
instance:FT prog f105:=.n
instance:FT prog f67:=.n
instance:FT prog f394:=.n
instance:FT prog f344:=.n
instance:FT prog f393:=.n
instance:FT prog f342:=.n
instance:FT prog f200:=.n
instance:FT prog f143:=.n
instance:FT prog f98:=.n
instance:FT prog f61:=.n
instance:FT prog f382:=.n
instance:FT prog f324:=.n
instance:FT prog f383:=.n
instance:FT prog f326:=.n
instance:FT prog f387:=.n
instance:FT prog f332:=.n
instance:FT prog f391:=.n
instance:FT prog f337:=.n
instance:FT prog f340:=.n
instance:FT prog f267:=.n
instance:FT prog f265:=.n
instance:FT prog f256:=.n
instance:FT prog f258:=.n
instance:FT prog f260:=.n
instance:FT prog f263:=.n
instance:FT prog f392:=.n
instance:FT prog f345:=.n
instance:FT prog f343:=.n
instance:FT prog f280:=.n
instance:FT prog f318:=.n
instance:FT prog f320:=.n
instance:FT prog f308:=.n
instance:FT prog f314:=.n
instance:FT prog f316:=.n
theorem aJB {α:Type} (p:α->Bool) (l:List α):(l.any fun e=>!p e)= !l.all p:=by grind
def pH (d:ExprD->Nat):List ExprD->Nat
 |[]=>0
 |e::l=>max (d e) (pH d l)
theorem bHW (d:ExprD->Nat) (a b:List ExprD):pH d (a++b)=max (pH d a) (pH d b):=by induction a with|nil=>simp[pH]|cons x a o=>simp_all [List.cons_append,pH]
theorem aKX (d:ExprD->Nat) (l:List ExprD) (k:Nat) (h:k<l.length):pH d (l.take (k+1))=max (pH d (l.take k)) (d l[k]):=by grind [List.take_succ_eq_append_getElem,bHW,pH]
def aBK (l:List PlanD):AV:=.rd 6 (l.map dN)
def aLO (s:eL):List AV:=[.rd 1 (aZ s.names),aD s.bare,aB s.width]
def xH (l:List eL):AV:=.rd 3 (l.map aLO)
def rT (s:eL):AV:=.agg [.rd 1 (aZ s.names),aD s.bare,aB s.width]
def cIP:ByteArray:=⟨#[114]⟩
def cIQ:ByteArray:=⟨#[110]⟩
def bXO (e:ExprD):List AV:=[dC 1,aB 0,aB 0,aE cIP,.rd 9 [fM e]]
def aDS (l:List ExprD):AV:=.rd 5 (l.map bXO)
def aWB (e:ExprD):AV:=.agg [dC 1,aB 0,aB 0,aE cIP,.rd 9 [fM e]]
def cFQ (e:ExprD):List AV:=[aB 0,aB 0,aE cIQ,.rd 5 [bXO e]]
def aDR (l:List ExprD):AV:=.rd 4 (l.map cFQ)
def aRT (e:ExprD):AV:=.agg [aB 0,aB 0,aE cIQ,.rd 5 [bXO e]]
def uI:AV:=.val (.slice none 0 0)
attribute [local simp] aLO xH rT bXO aDS aWB cFQ aDR aRT aR lL aZ uI
theorem aWP (l:List eL) (U:l.length<=4194304) (f:FuncId) (o:List AV) (M:aW o=true) (p:eL->Bool) (hp:∀x∈l,Con prog f (rT x::o) (aD (p x))): Con prog 142 [xH l,.clo (.func f) o] (aB (fid p l 0)):=by
 have hw:bD [] o=true:=aN [] o M;refine Con.oc func142 fun C W Y=>?_;refine aK ?_;refine .block<| .loopG (fun k:Nat=>{tm:=[(0,xH l),(1,.clo (.func f) o),(7,aB l.length),(8,aB k)],hp:=[]}) (fun k=>k<=l.length/\fid p l 0=fid p (l.drop k) k) (fun k=>l.length-k) 0 ⟨by omega,by simp⟩ (by simp[hw]) (fun k hk=>?_);obtain⟨S,D⟩:=hk;refine aA ?_;refine .seq<| .cnd (fun A=>?_) (fun E=>?_);{have A:k<l.length:=(by simpa using A);have O:=jI p l k A;have G:=hp l[k] (List.getElem_mem A);have I:=eI G;refine goX [] fun K J=>?_;simp[A];refine J _ ?_;refine goX [{r:=aD (p l[k])}] fun K J=>?_;simp[A,I.1,I.2];(repeat first|refine ob ?_ |refine⟨by intros;exact aX (by simpa using M) G,?_⟩);refine J _ ?_;refine .cnd (fun L=>?_) (fun L=>?_);{refine aA ?_;refine .re ?_;refine .clos ?_ rfl;rw[D,O,if_pos L];rfl};refine aA ?_;refine⟨k+1,⟨by omega,by rw[D,O,if_neg (by simp[L])]⟩,by omega,?_⟩;simp[hw,aC k (by omega)]};have E:¬k<l.length:=by simpa using E
 refine .exit ?_;refine aA ?_;refine .re ?_;refine .clos ?_ rfl;rw[D,List.drop_eq_nil_of_le (by omega)];rfl
theorem aMI (l:List eL) (D:l.length<=4194304) (f:FuncId) (o:List AV) (A:aW o=true) (p:eL->Bool) (hp:∀x∈l,Con prog f (rT x::o) (aD (p x))): Con prog 102 [xH l,.clo (.func f) o] (aD (l.any p)):=by have h1:=aWP l D f o A p hp;have E:=mL p l 0;refine Con.oc func102 fun C I J=>?_;refine aA ?_;refine goX [{r:=aB (fid p l 0)}] fun K G=>?_;simp;(repeat first|refine ob ?_ |refine⟨by intros;exact aX (by simpa using A) h1,?_⟩);refine G _ ?_;refine .re ?_;refine .clos ?_ rfl;rw[<-E];simp
theorem aWO (l:List ByteArray) (U:l.length<=4194304) (f:FuncId) (o:List AV) (M:aW o=true) (p:ByteArray->Bool) (hp:∀x∈l,Con prog f (aE x::o) (aD (p x))): Con prog 105 [aR l,.clo (.func f) o] (aB (fid p l 0)):=by
 have hw:bD [] o=true:=aN [] o M;refine Con.oc func105 fun C W Y=>?_;refine aK ?_;refine .block<| .loopG (fun k:Nat=>{tm:=[(0,aR l),(1,.clo (.func f) o),(7,aB l.length),(8,aB k)],hp:=[]}) (fun k=>k<=l.length/\fid p l 0=fid p (l.drop k) k) (fun k=>l.length-k) 0 ⟨by omega,by simp⟩ (by simp[hw]) (fun k hk=>?_);obtain⟨S,D⟩:=hk;refine aA ?_;refine .seq<| .cnd (fun A=>?_) (fun E=>?_);{have A:k<l.length:=(by simpa using A);have O:=jI p l k A;have G:=hp l[k] (List.getElem_mem A);have I:=eI G;refine goX [] fun K J=>?_;simp[A];refine J _ ?_;refine goX [{r:=aD (p l[k])}] fun K J=>?_;simp[A,I.1,I.2];(repeat first|refine ob ?_ |refine⟨by intros;exact aX (by simpa using M) G,?_⟩);refine J _ ?_;refine .cnd (fun L=>?_) (fun L=>?_);{refine aA ?_;refine .re ?_;refine .clos ?_ rfl;rw[D,O,if_pos L];rfl};refine aA ?_;refine⟨k+1,⟨by omega,by rw[D,O,if_neg (by simp[L])]⟩,by omega,?_⟩;simp[hw,aC k (by omega)]};have E:¬k<l.length:=by simpa using E
 refine .exit ?_;refine aA ?_;refine .re ?_;refine .clos ?_ rfl;rw[D,List.drop_eq_nil_of_le (by omega)];rfl
theorem xT (l:List ByteArray) (D:l.length<=4194304) (f:FuncId) (o:List AV) (A:aW o=true) (p:ByteArray->Bool) (hp:∀x∈l,Con prog f (aE x::o) (aD (p x))): Con prog 67 [aR l,.clo (.func f) o] (aD (l.any p)):=by have h1:=aWO l D f o A p hp;have E:=mL p l 0;refine Con.oc func67 fun C I J=>?_;refine aA ?_;refine goX [{r:=aB (fid p l 0)}] fun K G=>?_;simp;(repeat first|refine ob ?_ |refine⟨by intros;exact aX (by simpa using A) h1,?_⟩);refine G _ ?_;refine .re ?_;refine .clos ?_ rfl;rw[<-E];simp
theorem aWS (l:List ExprD) (U:l.length<=4194304) (f:FuncId) (o:List AV) (M:aW o=true) (p:ExprD->Bool) (hp:∀x∈l,Con prog f (aWB x::o) (aD (p x))): Con prog 394 [aDS l,.clo (.func f) o] (aB (fid p l 0)):=by
 have hw:bD [] o=true:=aN [] o M;refine Con.oc func394 fun C W Y=>?_;refine aK ?_;refine .block<| .loopG (fun k:Nat=>{tm:=[(0,aDS l),(1,.clo (.func f) o),(7,aB l.length),(8,aB k)],hp:=[]}) (fun k=>k<=l.length/\fid p l 0=fid p (l.drop k) k) (fun k=>l.length-k) 0 ⟨by omega,by simp⟩ (by simp[hw]) (fun k hk=>?_);obtain⟨S,D⟩:=hk;refine aA ?_;refine .seq<| .cnd (fun A=>?_) (fun E=>?_);{have A:k<l.length:=(by simpa using A);have O:=jI p l k A;have G:=hp l[k] (List.getElem_mem A);have I:=eI G;refine goX [] fun K J=>?_;simp[A];refine J _ ?_;refine goX [{r:=aD (p l[k])}] fun K J=>?_;simp[A,I.1,I.2];(repeat first|refine ob ?_ |refine⟨by intros;exact aX (by simpa using M) G,?_⟩);refine J _ ?_;refine .cnd (fun L=>?_) (fun L=>?_);{refine aA ?_;refine .re ?_;refine .clos ?_ rfl;rw[D,O,if_pos L];rfl};refine aA ?_;refine⟨k+1,⟨by omega,by rw[D,O,if_neg (by simp[L])]⟩,by omega,?_⟩;simp[hw,aC k (by omega)]};have E:¬k<l.length:=by simpa using E
 refine .exit ?_;refine aA ?_;refine .re ?_;refine .clos ?_ rfl;rw[D,List.drop_eq_nil_of_le (by omega)];rfl
theorem aML (l:List ExprD) (D:l.length<=4194304) (f:FuncId) (o:List AV) (A:aW o=true) (p:ExprD->Bool) (hp:∀x∈l,Con prog f (aWB x::o) (aD (p x))): Con prog 344 [aDS l,.clo (.func f) o] (aD (l.any p)):=by have h1:=aWS l D f o A p hp;have E:=mL p l 0;refine Con.oc func344 fun C I J=>?_;refine aA ?_;refine goX [{r:=aB (fid p l 0)}] fun K G=>?_;simp;(repeat first|refine ob ?_ |refine⟨by intros;exact aX (by simpa using A) h1,?_⟩);refine G _ ?_;refine .re ?_;refine .clos ?_ rfl;rw[<-E];simp
theorem aWR (l:List ExprD) (U:l.length<=4194304) (f:FuncId) (o:List AV) (M:aW o=true) (p:ExprD->Bool) (hp:∀x∈l,Con prog f (aRT x::o) (aD (p x))): Con prog 393 [aDR l,.clo (.func f) o] (aB (fid p l 0)):=by
 have hw:bD [] o=true:=aN [] o M;refine Con.oc func393 fun C W Y=>?_;refine aK ?_;refine .block<| .loopG (fun k:Nat=>{tm:=[(0,aDR l),(1,.clo (.func f) o),(7,aB l.length),(8,aB k)],hp:=[]}) (fun k=>k<=l.length/\fid p l 0=fid p (l.drop k) k) (fun k=>l.length-k) 0 ⟨by omega,by simp⟩ (by simp[hw]) (fun k hk=>?_);obtain⟨S,D⟩:=hk;refine aA ?_;refine .seq<| .cnd (fun A=>?_) (fun E=>?_);{have A:k<l.length:=(by simpa using A);have O:=jI p l k A;have G:=hp l[k] (List.getElem_mem A);have I:=eI G;refine goX [] fun K J=>?_;simp[A];refine J _ ?_;refine goX [{r:=aD (p l[k])}] fun K J=>?_;simp[A,I.1,I.2];(repeat first|refine ob ?_ |refine⟨by intros;exact aX (by simpa using M) G,?_⟩);refine J _ ?_;refine .cnd (fun L=>?_) (fun L=>?_);{refine aA ?_;refine .re ?_;refine .clos ?_ rfl;rw[D,O,if_pos L];rfl};refine aA ?_;refine⟨k+1,⟨by omega,by rw[D,O,if_neg (by simp[L])]⟩,by omega,?_⟩;simp[hw,aC k (by omega)]};have E:¬k<l.length:=by simpa using E
 refine .exit ?_;refine aA ?_;refine .re ?_;refine .clos ?_ rfl;rw[D,List.drop_eq_nil_of_le (by omega)];rfl
theorem aMK (l:List ExprD) (D:l.length<=4194304) (f:FuncId) (o:List AV) (A:aW o=true) (p:ExprD->Bool) (hp:∀x∈l,Con prog f (aRT x::o) (aD (p x))): Con prog 342 [aDR l,.clo (.func f) o] (aD (l.any p)):=by have h1:=aWR l D f o A p hp;have E:=mL p l 0;refine Con.oc func342 fun C I J=>?_;refine aA ?_;refine goX [{r:=aB (fid p l 0)}] fun K G=>?_;simp;(repeat first|refine ob ?_ |refine⟨by intros;exact aX (by simpa using A) h1,?_⟩);refine G _ ?_;refine .re ?_;refine .clos ?_ rfl;rw[<-E];simp
theorem bJL (g:FuncId) (d:ExprD->Nat) (l:List ExprD) (G:l.length<=4194304) (I:∀e∈l,d e<=4611686018427387904) (h:∀e∈l,Con prog g [aWB e] (aB (d e))): Con prog 318 [aDS l,.val (.func (.func g) #[] #[])] (aB (pH d l)):=by
 refine Con.oc func318 fun C J L=>?_;refine bQ ?_;refine .block<| .loopG (fun k:Nat=>{tm:=[(1,.val (.func (.func g) #[] #[])),(5,aB (pH d (l.take k))),(8,aDS l),(9,aB l.length),(10,aB k)],hp:=[]}) (fun k=>k<=l.length) (fun k=>l.length-k) 0 (by omega) (by simp[pH]) (fun k hk=>?_);refine aA ?_;refine .seq<| .cnd (fun o=>?_) (fun A=>?_);{have o:k<l.length:=(by simpa using o);have E:=h l[k] (List.getElem_mem o);refine goX [] fun K D=>?_;simp[o];refine ck D ?_;refine goX [{r:=aB (d l[k])}] fun K D=>?_;simp[o,(eI E).1,(eI E).2];refine ck D ?_;refine aA ?_;refine⟨k+1,by omega,by omega,?_⟩;have hm:=aKX d l k o;generalize pH d (List.take k l)=a at hm|-;simp[aC k (by omega),hm];split<;>omega};have A:¬k<l.length:=by simpa using A
 refine .exit ?_;refine aA ?_;refine .re ?_;refine .clos ?_ rfl;rw[List.take_of_length_le (by omega)];rfl
theorem bJK (g:FuncId) (d:ExprD->Nat) (l:List ExprD) (G:l.length<=4194304) (I:∀e∈l,d e<=4611686018427387904) (h:∀e∈l,Con prog g [aRT e] (aB (d e))): Con prog 320 [aDR l,.val (.func (.func g) #[] #[])] (aB (pH d l)):=by
 refine Con.oc func320 fun C J L=>?_;refine bQ ?_;refine .block<| .loopG (fun k:Nat=>{tm:=[(1,.val (.func (.func g) #[] #[])),(5,aB (pH d (l.take k))),(8,aDR l),(9,aB l.length),(10,aB k)],hp:=[]}) (fun k=>k<=l.length) (fun k=>l.length-k) 0 (by omega) (by simp[pH]) (fun k hk=>?_);refine aA ?_;refine .seq<| .cnd (fun o=>?_) (fun A=>?_);{have o:k<l.length:=(by simpa using o);have E:=h l[k] (List.getElem_mem o);refine goX [] fun K D=>?_;simp[o];refine ck D ?_;refine goX [{r:=aB (d l[k])}] fun K D=>?_;simp[o,(eI E).1,(eI E).2];refine ck D ?_;refine aA ?_;refine⟨k+1,by omega,by omega,?_⟩;have hm:=aKX d l k o;generalize pH d (List.take k l)=a at hm|-;simp[aC k (by omega),hm];split<;>omega};have A:¬k<l.length:=by simpa using A
 refine .exit ?_;refine aA ?_;refine .re ?_;refine .clos ?_ rfl;rw[List.take_of_length_le (by omega)];rfl
theorem bEE (g:FuncId):Con prog 308 [uI,.val (.func (.func g) #[] #[])] (aB 0):=by refine Con.oc func308 fun C o A=>?_;refine bQ ?_;refine .block<| .loopG (fun _:Unit=>{tm:=[(5,aB 0),(9,aB 0),(10,aB 0)],hp:=[]}) (fun _=>True) (fun _=>0) () trivial (by simp) (fun _ _=>?_);refine aA ?_;refine .seq<| .cf (by simp) ?_;refine .exit ?_;refine aA ?_;exact rtC
theorem bEG (g:FuncId):Con prog 314 [uI,.val (.func (.func g) #[] #[])] (aB 0):=by refine Con.oc func314 fun C o A=>?_;refine bQ ?_;refine .block<| .loopG (fun _:Unit=>{tm:=[(5,aB 0),(9,aB 0),(10,aB 0)],hp:=[]}) (fun _=>True) (fun _=>0) () trivial (by simp) (fun _ _=>?_);refine aA ?_;refine .seq<| .cf (by simp) ?_;refine .exit ?_;refine aA ?_;exact rtC
theorem bEF (g:FuncId):Con prog 316 [uI,.val (.func (.func g) #[] #[])] (aB 0):=by refine Con.oc func316 fun C o A=>?_;refine bQ ?_;refine .block<| .loopG (fun _:Unit=>{tm:=[(5,aB 0),(9,aB 0),(10,aB 0)],hp:=[]}) (fun _=>True) (fun _=>0) () trivial (by simp) (fun _ _=>?_);refine aA ?_;refine .seq<| .cf (by simp) ?_;refine .exit ?_;refine aA ?_;exact rtC
theorem aVA (f:FuncId) (o:List AV) (A:aW o=true):Con prog 382 [uI,.clo (.func f) o] (aB (-1)):=by have hw:bD [] o=true:=aN [] o A;refine Con.oc func382 fun C D E=>?_;refine aK ?_;refine .block<| .loopG (fun _:Unit=>{tm:=[(7,aB 0),(8,aB 0)],hp:=[]}) (fun _=>True) (fun _=>0) () trivial (by simp) (fun _ _=>?_);refine aA ?_;refine .seq<| .cf (by simp) ?_;refine .exit ?_;refine aA ?_;exact rtC
theorem aJQ (f:FuncId) (o:List AV) (A:aW o=true):Con prog 324 [uI,.clo (.func f) o] (aD false):=by
 have h1:=aVA f o A;refine Con.oc func324 fun C E G=>?_;refine aA ?_;refine goX [{r:=aB (-1)}] fun K D=>?_;simp;(repeat first|refine ob ?_ |refine⟨by intros;exact aX (by simpa using A) h1,?_⟩);refine D _ ?_;repeat refine .seq ?_
 refine .ret ⟨.inr rfl,_,by rfl,?_⟩;exact .closed rfl
theorem cHG (g:FuncId):Con prog 256 [uI,.val (.func (.func g) #[] #[])] (aD true):=by have h1:=aJQ 325 [.elt 1 [[.val (.func (.func g) #[] #[])]] 0 0] rfl;refine Con.oc func256 fun C A D=>?_;refine aA ?_;refine goX [{r:=aD false,us:=[3]}] fun K o=>?_;simp;(repeat first|refine ob ?_ |refine⟨by intros;exact⟨_,.cons (.closed rfl) (.cons (.clo (.cons (.ptr rfl (.cons (.closed rfl) .nil)) .nil)) .nil),h1⟩,?_⟩);refine o _ ?_;exact rtC
theorem aUW (f:FuncId) (o:List AV) (A:aW o=true):Con prog 383 [uI,.clo (.func f) o] (aB (-1)):=by have hw:bD [] o=true:=aN [] o A;refine Con.oc func383 fun C D E=>?_;refine aK ?_;refine .block<| .loopG (fun _:Unit=>{tm:=[(7,aB 0),(8,aB 0)],hp:=[]}) (fun _=>True) (fun _=>0) () trivial (by simp) (fun _ _=>?_);refine aA ?_;refine .seq<| .cf (by simp) ?_;refine .exit ?_;refine aA ?_;exact rtC
theorem aJM (f:FuncId) (o:List AV) (A:aW o=true):Con prog 326 [uI,.clo (.func f) o] (aD false):=by
 have h1:=aUW f o A;refine Con.oc func326 fun C E G=>?_;refine aA ?_;refine goX [{r:=aB (-1)}] fun K D=>?_;simp;(repeat first|refine ob ?_ |refine⟨by intros;exact aX (by simpa using A) h1,?_⟩);refine D _ ?_;repeat refine .seq ?_
 refine .ret ⟨.inr rfl,_,by rfl,?_⟩;exact .closed rfl
theorem cHC (g:FuncId):Con prog 258 [uI,.val (.func (.func g) #[] #[])] (aD true):=by have h1:=aJM 327 [.elt 1 [[.val (.func (.func g) #[] #[])]] 0 0] rfl;refine Con.oc func258 fun C A D=>?_;refine aA ?_;refine goX [{r:=aD false,us:=[3]}] fun K o=>?_;simp;(repeat first|refine ob ?_ |refine⟨by intros;exact⟨_,.cons (.closed rfl) (.cons (.clo (.cons (.ptr rfl (.cons (.closed rfl) .nil)) .nil)) .nil),h1⟩,?_⟩);refine o _ ?_;exact rtC
theorem aUZ (f:FuncId) (o:List AV) (A:aW o=true):Con prog 387 [uI,.clo (.func f) o] (aB (-1)):=by have hw:bD [] o=true:=aN [] o A;refine Con.oc func387 fun C D E=>?_;refine aK ?_;refine .block<| .loopG (fun _:Unit=>{tm:=[(7,aB 0),(8,aB 0)],hp:=[]}) (fun _=>True) (fun _=>0) () trivial (by simp) (fun _ _=>?_);refine aA ?_;refine .seq<| .cf (by simp) ?_;refine .exit ?_;refine aA ?_;exact rtC
theorem aJP (f:FuncId) (o:List AV) (A:aW o=true):Con prog 332 [uI,.clo (.func f) o] (aD false):=by
 have h1:=aUZ f o A;refine Con.oc func332 fun C E G=>?_;refine aA ?_;refine goX [{r:=aB (-1)}] fun K D=>?_;simp;(repeat first|refine ob ?_ |refine⟨by intros;exact aX (by simp[*]) h1,?_⟩);refine D _ ?_;repeat refine .seq ?_
 refine .ret ⟨.inr rfl,_,by rfl,?_⟩;exact .closed rfl
theorem cHD (g:FuncId):Con prog 260 [uI,.val (.func (.func g) #[] #[])] (aD true):=by
 have h1:=aJP 333 [.elt 1 [[.val (.func (.func g) #[] #[])]] 0 0] rfl;refine Con.oc func260 fun C A D=>?_;refine aA ?_;refine goX [{r:=aD false,us:=[3]}] fun K o=>?_;simp;(repeat first|refine ob ?_ |refine⟨by intros;exact⟨_,.cons (.closed rfl) (.cons (.clo (.cons (.ptr rfl (.cons (.closed rfl) .nil)) .nil)) .nil),h1⟩,?_⟩);refine o _ ?_;repeat refine .seq ?_
 refine .ret ⟨.inr rfl,_,by rfl,?_⟩;exact .closed rfl
theorem aUY (f:FuncId) (o:List AV) (A:aW o=true):Con prog 391 [uI,.clo (.func f) o] (aB (-1)):=by
 have hw:bD [] o=true:=aN [] o A;refine Con.oc func391 fun C D E=>?_;refine aK ?_;refine .block<| .loopG (fun _:Unit=>{tm:=[(7,aB 0),(8,aB 0)],hp:=[]}) (fun _=>True) (fun _=>0) () trivial (by simp) (fun _ _=>?_);refine aA ?_;refine .seq<| .cf (by simp) ?_;refine .exit ?_;refine aA ?_;repeat refine .seq ?_
 refine .ret ⟨.inr rfl,_,by rfl,?_⟩;exact .closed rfl
theorem aJO (f:FuncId) (o:List AV) (A:aW o=true):Con prog 337 [uI,.clo (.func f) o] (aD false):=by
 have h1:=aUY f o A;refine Con.oc func337 fun C E G=>?_;refine aA ?_;refine goX [{r:=aB (-1)}] fun K D=>?_;simp;(repeat first|refine ob ?_ |refine⟨by intros;exact aX (by simp[*]) h1,?_⟩);refine D _ ?_;repeat refine .seq ?_
 refine .ret ⟨.inr rfl,_,by rfl,?_⟩;exact .closed rfl
theorem bJZ (g:FuncId):Con prog 263 [uI,.val (.func (.func g) #[] #[])] (aD true):=by
 have h1:=aJO 338 [.elt 1 [[.val (.func (.func g) #[] #[])]] 0 0] rfl;refine Con.oc func263 fun C A D=>?_;refine aA ?_;refine goX [{r:=aD false,us:=[3]}] fun K o=>?_;simp;(repeat first|refine ob ?_ |refine⟨by intros;exact⟨_,.cons (.closed rfl) (.cons (.clo (.cons (.ptr rfl (.cons (.closed rfl) .nil)) .nil)) .nil),h1⟩,?_⟩);refine o _ ?_;repeat refine .seq ?_
 refine .ret ⟨.inr rfl,_,by rfl,?_⟩;exact .closed rfl
theorem cHF (g:FuncId) (p:ExprD->Bool) (e:ExprD) (h:Con prog g [aWB e] (aD (p e))):Con prog 345 [aWB e,.elt 1 [[.val (.func (.func g) #[] #[])]] 0 0] (aD (!p e)):=by
 refine Con.oc func345 fun C A D=>?_;refine aA ?_;refine goX [{r:=aD (p e)}] fun K o=>?_;simp[(eI h).1,(eI h).2];refine ck o ?_;repeat refine .seq ?_
 refine .ret ⟨.inr rfl,_,by rfl,?_⟩;exact .closed rfl
theorem cLM (g:FuncId) (p:ExprD->Bool) (l:List ExprD) (o:l.length<=4194304) (h:∀e∈l,Con prog g [aWB e] (aD (p e))):Con prog 267 [aDS l,.val (.func (.func g) #[] #[])] (aD (l.all p)):=by
 have h1:=aML l o 345 [.elt 1 [[.val (.func (.func g) #[] #[])]] 0 0] rfl (fun e=>!p e) (fun e he=>cHF g p e (h e he));refine Con.oc func267 fun C D E=>?_;refine aA ?_;refine goX [{r:=aD (l.any fun e=>!p e),us:=[3]}] fun K A=>?_;simp;(repeat first|refine ob ?_ |refine⟨by intros;exact⟨_,.cons (.closed rfl) (.cons (.clo (.cons (.ptr rfl (.cons (.closed rfl) .nil)) .nil)) .nil),h1⟩,?_⟩);refine A _ ?_;repeat refine .seq ?_
 refine .ret ⟨.inr rfl,_,by rfl,?_⟩;refine .clos ?_ rfl;simp[aJB]
theorem cHE (g:FuncId) (p:ExprD->Bool) (e:ExprD) (h:Con prog g [aRT e] (aD (p e))):Con prog 343 [aRT e,.elt 1 [[.val (.func (.func g) #[] #[])]] 0 0] (aD (!p e)):=by
 refine Con.oc func343 fun C A D=>?_;refine aA ?_;refine goX [{r:=aD (p e)}] fun K o=>?_;simp[(eI h).1,(eI h).2];refine ck o ?_;repeat refine .seq ?_
 refine .ret ⟨.inr rfl,_,by rfl,?_⟩;exact .closed rfl
theorem bSI (g:FuncId) (p:ExprD->Bool) (l:List ExprD) (o:l.length<=4194304) (h:∀e∈l,Con prog g [aRT e] (aD (p e))):Con prog 265 [aDR l,.val (.func (.func g) #[] #[])] (aD (l.all p)):=by
 have h1:=aMK l o 343 [.elt 1 [[.val (.func (.func g) #[] #[])]] 0 0] rfl (fun e=>!p e) (fun e he=>cHE g p e (h e he));refine Con.oc func265 fun C D E=>?_;refine aA ?_;refine goX [{r:=aD (l.any fun e=>!p e),us:=[3]}] fun K A=>?_;simp;(repeat first|refine ob ?_ |refine⟨by intros;exact⟨_,.cons (.closed rfl) (.cons (.clo (.cons (.ptr rfl (.cons (.closed rfl) .nil)) .nil)) .nil),h1⟩,?_⟩);refine A _ ?_;repeat refine .seq ?_
 refine .ret ⟨.inr rfl,_,by rfl,?_⟩;refine .clos ?_ rfl;simp[aJB]
attribute [local simp] aP aV bG aM bK cA aBK
theorem aWT (l:List ExprD) (S:l.length<=4194304) (f:FuncId) (o:List AV) (L:aW o=true) (p:ExprD->Bool) (hp:∀x∈l,Con prog f (bG x::o) (aD (p x))): Con prog 200 [dW l,.clo (.func f) o] (aB (fid p l 0)):=by
 have hw:bD [] o=true:=aN [] o L;refine Con.oc func200 fun C U W=>?_;refine aK ?_;refine .block<| .loopG (fun k:Nat=>{tm:=[(0,dW l),(1,.clo (.func f) o),(7,aB l.length),(8,aB k)],hp:=[]}) (fun k=>k<=l.length/\fid p l 0=fid p (l.drop k) k) (fun k=>l.length-k) 0 ⟨by omega,by simp⟩ (by simp[hw]) (fun k hk=>?_);obtain⟨M,G⟩:=hk;refine aA ?_;refine .seq<| .cnd (fun A=>?_) (fun I=>?_);{have A:k<l.length:=(by simp_all);have Y:=jI p l k A;have D:=hp l[k] (List.getElem_mem A);have E:=eI D;refine goX [] fun K J=>?_;simp[A];refine J _ ?_;refine goX [{r:=aD (p l[k])}] fun K J=>?_;simp[A,E.1,E.2];(repeat first|refine ob ?_ |refine⟨by intros;exact aX (by assumption) D,?_⟩);refine J _ ?_;refine .cnd (fun O=>?_) (fun O=>?_);{refine aA ?_;refine .re ?_;refine .clos ?_ rfl;simp[*]};refine aA ?_;refine⟨k+1,⟨by omega,by simp[*]⟩,by omega,?_⟩;simp[hw,aC k (by omega)]};have I:¬k<l.length:=by simp_all
 refine .exit ?_;refine aA ?_;repeat refine .seq ?_
 refine .ret ⟨.inr rfl,_,by rfl,?_⟩;refine .clos ?_ rfl;rw[G,List.drop_eq_nil_of_le (by omega)];rfl
theorem kB (l:List ExprD) (D:l.length<=4194304) (f:FuncId) (o:List AV) (A:aW o=true) (p:ExprD->Bool) (hp:∀x∈l,Con prog f (bG x::o) (aD (p x))): Con prog 143 [dW l,.clo (.func f) o] (aD (l.any p)):=by have h1:=aWT l D f o A p hp;have G:=mL p l 0;refine Con.oc func143 fun C I J=>?_;refine aA ?_;refine goX [{r:=aB (fid p l 0)}] fun K E=>?_;simp;(repeat first|refine ob ?_ |refine⟨by intros;exact aX (by simpa using A) h1,?_⟩);refine E _ ?_;refine .re ?_;refine .clos ?_ rfl;simp[*]
theorem aWQ (l:List PlanD) (S:l.length<=4194304) (f:FuncId) (o:List AV) (L:aW o=true) (p:PlanD->Bool) (hp:∀x∈l,Con prog f (aM x::o) (aD (p x))): Con prog 98 [aBK l,.clo (.func f) o] (aB (fid p l 0)):=by
 have hw:bD [] o=true:=aN [] o L;refine Con.oc func98 fun C U W=>?_;refine aK ?_;refine .block<| .loopG (fun k:Nat=>{tm:=[(0,aBK l),(1,.clo (.func f) o),(7,aB l.length),(8,aB k)],hp:=[]}) (fun k=>k<=l.length/\fid p l 0=fid p (l.drop k) k) (fun k=>l.length-k) 0 ⟨by omega,by simp⟩ (by simp[hw]) (fun k hk=>?_);obtain⟨M,G⟩:=hk;refine aA ?_;refine .seq<| .cnd (fun A=>?_) (fun I=>?_);{have A:k<l.length:=(by simp_all);have Y:=jI p l k A;have D:=hp l[k] (List.getElem_mem A);have E:=eI D;refine goX [] fun K J=>?_;simp[A];refine J _ ?_;refine goX [{r:=aD (p l[k])}] fun K J=>?_;simp[A,E.1,E.2];(repeat first|refine ob ?_ |refine⟨by intros;exact aX (by assumption) D,?_⟩);refine J _ ?_;refine .cnd (fun O=>?_) (fun O=>?_);{refine aA ?_;refine .re ?_;refine .clos ?_ rfl;simp[*]};refine aA ?_;refine⟨k+1,⟨by omega,by simp[*]⟩,by omega,?_⟩;simp[hw,aC k (by omega)]};have I:¬k<l.length:=by simp_all
 refine .exit ?_;refine aA ?_;repeat refine .seq ?_
 refine .ret ⟨.inr rfl,_,by rfl,?_⟩;refine .clos ?_ rfl;rw[G,List.drop_eq_nil_of_le (by omega)];rfl
theorem aMJ (l:List PlanD) (D:l.length<=4194304) (f:FuncId) (o:List AV) (A:aW o=true) (p:PlanD->Bool) (hp:∀x∈l,Con prog f (aM x::o) (aD (p x))): Con prog 61 [aBK l,.clo (.func f) o] (aD (l.any p)):=by have h1:=aWQ l D f o A p hp;have G:=mL p l 0;refine Con.oc func61 fun C I J=>?_;refine aA ?_;refine goX [{r:=aB (fid p l 0)}] fun K E=>?_;simp;(repeat first|refine ob ?_ |refine⟨by intros;exact aX (by simpa using A) h1,?_⟩);refine E _ ?_;refine .re ?_;refine .clos ?_ rfl;simp[*]
theorem cHI (g:FuncId) (o:List AV) (p:ExprD->Bool) (e:ExprD) (D:aW o=true) (h:Con prog g (bG e::o) (aD (p e))):Con prog 392 [bG e,.elt 1 [[.clo (.func g) o]] 0 0] (aD (!p e)):=by
 refine Con.oc func392 fun C E G=>?_;refine aA ?_;refine goX [{r:=aD (p e)}] fun K A=>?_;simp[(eI h).1,(eI h).2];(repeat first|refine ob ?_ |refine⟨by intros;exact aX (by assumption) h,?_⟩);refine A _ ?_;repeat refine .seq ?_
 refine .ret ⟨.inr rfl,_,by rfl,?_⟩;exact .closed rfl
theorem cLO (g:FuncId) (o:List AV) (p:ExprD->Bool) (l:List ExprD) (A:l.length<=4194304) (D:aW o=true) (h:∀e∈l,Con prog g (bG e::o) (aD (p e))):Con prog 340 [dW l,.clo (.func g) o] (aD (l.all p)):=by
 have h1:=kB l A 392 [.elt 1 [[.clo (.func g) o]] 0 0] rfl (fun e=>!p e) (fun e he=>cHI g o p e D (h e he));refine Con.oc func340 fun C G I=>?_;refine aA ?_;refine goX [{r:=aD (l.any fun e=>!p e),us:=[3]}] fun K E=>?_;simp;(repeat first|refine ob ?_ |refine⟨by intros;exact⟨_,.cons (.closed rfl) (.cons (.clo (.cons (.ptr rfl (.cons (.closed (by assumption)) .nil)) .nil)) .nil),h1⟩,?_⟩);refine E _ ?_;repeat refine .seq ?_
 refine .ret ⟨.inr rfl,_,by rfl,?_⟩;refine .clos ?_ rfl;simp[aJB]
theorem bYX (g:FuncId) (p:ExprD->Bool) (e:ExprD) (h:Con prog g [bG e] (aD (p e))):Con prog 392 [bG e,.elt 1 [[.val (.func (.func g) #[] #[])]] 0 0] (aD (!p e)):=by
 refine Con.oc func392 fun C A D=>?_;refine aA ?_;refine goX [{r:=aD (p e)}] fun K o=>?_;simp[(eI h).1,(eI h).2];refine ck o ?_;repeat refine .seq ?_
 refine .ret ⟨.inr rfl,_,by rfl,?_⟩;exact .closed rfl
theorem cHH (g:FuncId) (p:ExprD->Bool) (l:List ExprD) (o:l.length<=4194304) (h:∀e∈l,Con prog g [bG e] (aD (p e))):Con prog 340 [dW l,.val (.func (.func g) #[] #[])] (aD (l.all p)):=by
 have h1:=kB l o 392 [.elt 1 [[.val (.func (.func g) #[] #[])]] 0 0] rfl (fun e=>!p e) (fun e he=>bYX g p e (h e he));refine Con.oc func340 fun C D E=>?_;refine aA ?_;refine goX [{r:=aD (l.any fun e=>!p e),us:=[3]}] fun K A=>?_;simp;(repeat first|refine ob ?_ |refine⟨by intros;exact⟨_,.cons (.closed rfl) (.cons (.clo (.cons (.ptr rfl (.cons (.closed rfl) .nil)) .nil)) .nil),h1⟩,?_⟩);refine A _ ?_;repeat refine .seq ?_
 refine .ret ⟨.inr rfl,_,by rfl,?_⟩;refine .clos ?_ rfl;simp[aJB]
theorem aNZ (g:FuncId) (d:ExprD->Nat) (l:List ExprD) (G:l.length<=4194304) (I:∀e∈l,d e<=4611686018427387904) (h:∀e∈l,Con prog g [bG e] (aB (d e))): Con prog 280 [dW l,.val (.func (.func g) #[] #[])] (aB (pH d l)):=by
 refine Con.oc func280 fun C J L=>?_;refine bQ ?_;refine .block<| .loopG (fun k:Nat=>{tm:=[(1,.val (.func (.func g) #[] #[])),(5,aB (pH d (l.take k))),(8,dW l),(9,aB l.length),(10,aB k)],hp:=[]}) (fun k=>k<=l.length) (fun k=>l.length-k) 0 (by omega) (by simp[pH]) (fun k hk=>?_);refine aA ?_;refine .seq<| .cnd (fun o=>?_) (fun A=>?_);{have o:k<l.length:=(by simpa using o);have E:=h l[k] (List.getElem_mem o);refine goX [] fun K D=>?_;simp[o];refine ck D ?_;refine goX [{r:=aB (d l[k])}] fun K D=>?_;simp[o,(eI E).1,(eI E).2];refine ck D ?_;refine aA ?_;refine⟨k+1,by omega,by omega,?_⟩;have hm:=aKX d l k o;generalize pH d (List.take k l)=a at hm|-;simp[aC k (by omega),hm];split<;>omega};have A:¬k<l.length:=by simpa using A
 refine .exit ?_;refine aA ?_;refine .re ?_;refine .clos ?_ rfl;simp_all [List.take_of_length_le]
