/- The library's slices.Grow at nil: room, and nothing in it. -/
import Derived.Test.YtackjebfmbnkbaaGreatDoorP17
import Derived.Lib.Slices
import Derived.Lib.Walk
import Derived.WalkKit
import Derived.RegionTactic
import Derived.OwnWalk
import Derived.Lib.AppendZeros
import Derived.Test.YtackjebfmbnkbaaGreatDoorP16
import Derived.Lib.ItoaLen
import Derived.Lib.Small
import Derived.Test.YtackjebfmbnkbaaGreatDoorP08
import Derived.Test.YtackjebfmbnkbaaGreatDoorP19
import Derived.Ground.Names2Prog
import Derived.Ground.SlgnProg
import Derived.Test.YtackjebfmbnkbaaGreatDoorProg
import Derived.Shelf.Strings.Repeat
import Derived.Shelf.Strings.Builder1
import Derived.Lib.Bytes
set_option linter.unusedSimpArgs false
set_option linter.unusedVariables false
set_option linter.unusedSectionVars false
section
open Go Go.Aw Go.Proofs
open Tryz
namespace Go.Al
set_option maxHeartbeats 4000000 in
set_option maxRecDepth 100000 in
theorem cHV (n : Nat) (w : World) (hw : RowKit.wrap64 (n : Int) = n) (o : 0 < n) (G : n <= 2199023255552) : Calls prog 111 #[.slice none 0 0, .int .i64 n] w fun e w' =>
    e = .returned (.slice (some ⟨w.heap.size, 0, none⟩) 0 (grownCap w n 0 33)) /\ w' = (w.alloc (.cells (Builtin.zeroCells #[.int .u8 0, .int .i64 0, .string ⟨#[]⟩, .slice none 0 0] n ++ Builtin.zeroCells #[.int .u8 0, .int .i64 0, .string ⟨#[]⟩, .slice none 0 0] (grownCap w n 0 33 - n)) 33)).drew := by
  have A : decide ((n : Int) < 0) = false := by simp
  have D : decide ((0 : Int) < n) = true := by simp [*]
  go_enter func111, ntmps111
  go_wp2_with fail
  all_goals first
    | (go_ret; exact ⟨rfl, rfl⟩)
    | (exfalso
       have E : Tryz.t33.bytes = 56 := rfl
       simp only [hw, E, Int.toNat_natCast, nextslicecap_zero o] at *
       omega)
set_option maxHeartbeats 4000000 in
set_option maxRecDepth 100000 in
theorem bZG (w : World) : Calls prog 111 #[.slice none 0 0, .int .i64 0] w fun e w' => e = .returned (.slice none 0 0) /\ w' = w := by
  go_enter func111, ntmps111
  go_wp2_with fail
  go_ret
  simp
theorem Con.grown {P:Program} {f:FuncId} {e wd:Nat} (ts:List AV) (he:Aw.Enters P f) (h:∀fz w vs,HoldsL fz ts bT vs.toList->Calls P f vs w fun x w'=>(x=.returned (.slice none 0 0)/\w'=w)\/ ∃cap cur,x=.returned (.slice (some ⟨w.heap.size,0,none⟩) 0 cap)/\Ext w w'/\w'.heap[w.heap.size]? =some (.cells cur e (0,0))/\cap<=maxLen/\bZH cur cap wd):Con P f ts (.own e wd []):=by refine⟨he,fun fz w us A _ E=>?_⟩;refine(h fz w us E).mono ?_;rintro x w' (⟨rfl,rfl⟩|⟨cap,cur,rfl,G,J,D,K⟩);{exact⟨_,fz,rfl,Ext.refl _,Fz.le_refl _,A,fun _ _=>⟨fun _=>rfl,rfl⟩,by simp[Holds,Nat.le_refl,trivial],fun el w' rows I=>by cases I;exact .inl ⟨rfl,rfl⟩⟩};{refine⟨_,fz,rfl,G,Fz.le_refl _,⟨fun c o u hu=>G.cell (A.1 c o u hu),fun c o L=>G.heap (A.2 c o L)⟩,fun _ _=>⟨fun _=>rfl,rfl⟩,by simp[Holds,Nat.zero_le,trivial],fun el w' rows I=>?_⟩;cases I;refine .inr ⟨_,cap,cur,rfl,Nat.le_refl _,J,Nat.zero_le _,D,K,fun o _=>?_,?_⟩;{cases D:fz.cell w.heap.size o with|none=>rfl|some u=>have:=World.block_lt_of_cell? w _ (A.1 _ _ _ D);simp at this};{cases D:fz.obj w.heap.size with|none=>rfl|some u=>have:=cE (A.2 _ _ D);omega}}
theorem aVH (z:Array Value) (n:Nat) (o:∀v∈z.toList,v.oneCell'=true):∀v∈(Builtin.zeroCells z n).toList,v.oneCell'=true:=by grind [Builtin.zeroCells,Nat.pos_of_ne_zero,Nat.mod_lt]
theorem cMQ (n:Nat) (D:n<=2199023255552):Con prog 111 [.val (.slice none 0 0),aB n] (.own 33 4 []):=by refine Con.grown _ ⟨_,func111,by kernel_rfl,rfl⟩ fun fz w vs A=>?_;have o:vs= #[.slice none 0 0,.int .i64 n]:=Array.toList_inj.1 (tT (vs:=[.slice none 0 0,.int .i64 n]) A);subst o;rcases Nat.eq_zero_or_pos n with h|h;{subst h;exact(bZG w).mono fun e w' h=>.inl h};{refine(cHV n w (by grind [RowKit.wrap64]) h D).mono ?_;rintro e w' ⟨rfl,rfl⟩;have h1:=grownCap_ge w n 0 33;have E:=grownCap_le_maxLen w n 0 33 (by grind [maxLen]);generalize grownCap w n 0 33=cap at*;refine .inr ⟨cap,_,rfl,⟨rfl,rfl,⟨rfl,fun _=>Nat.le_succ _⟩,by simp,fun k hk=>heap_alloc_old w _ hk⟩,heap_alloc_new w _,E,?_,?_⟩;{simp[size_zeroCells];omega};{intro v o;rw[Array.toList_append,List.mem_append]at o;rcases o with o|o<;>exact aVH _ _ (by simp) v o}}
theorem aPB {fz:Fz} {w:Nat} {vs:Array Value} (h:HoldsL fz [.rd w []] bT vs.toList):∃o c,vs= #[.slice o 0 c]:=by grind [HoldsL,Holds,Array.toList_inj]
set_option maxHeartbeats 1000000 in
set_option maxRecDepth 100000 in
theorem bPK (o : Option Addr) (c : Nat) (w : World) : Calls prog 37 #[.slice o 0 c] w fun e w' => (e = .returned (.slice none 0 0) /\ w' = w) \/ (e = .returned (.slice (some ⟨w.heap.size, 0, none⟩) 0 0) /\ w' = w.alloc (.cells #[] 9)) := by
  have A : (binOp BinOp.eql 24 (.slice o 0 c) (.slice none 0 0)).run prog w = .ok (.bool o.isNone) w := by
    have D : ∀ d : Nat, (Op.equalIn (d + 1) 24 (.slice o 0 c) (.slice none 0 0)).run prog w = .ok o.isNone w := by intro d; cases o <;> simp [Op.equalIn, run_underlying underlying24]
    simp_all [binOp, Op.equal, Op.maxDepth]
  cases o with
  | none =>
    go_enter func37, ntmps37
    go_wp2
    go_ret
    simp
  | some a =>
    go_enter func37, ntmps37
    go_wp2
    go_ret
    simp
set_option maxHeartbeats 1000000 in
set_option maxRecDepth 100000 in
theorem bPJ (o : Option Addr) (c : Nat) (w : World) : Calls prog 85 #[.slice o 0 c] w fun e w' => (e = .returned (.slice none 0 0) /\ w' = w) \/ (e = .returned (.slice (some ⟨w.heap.size, 0, none⟩) 0 0) /\ w' = w.alloc (.cells #[] 33)) := by
  have A : (binOp BinOp.eql 31 (.slice o 0 c) (.slice none 0 0)).run prog w = .ok (.bool o.isNone) w := by
    have D : ∀ d : Nat, (Op.equalIn (d + 1) 31 (.slice o 0 c) (.slice none 0 0)).run prog w = .ok o.isNone w := by intro d; cases o <;> simp [Op.equalIn, run_underlying underlying31]
    simp_all [binOp, Op.equal, Op.maxDepth]
  cases o with
  | none =>
    go_enter func85, ntmps85
    go_wp2
    go_ret
    simp
  | some a =>
    go_enter func85, ntmps85
    go_wp2
    go_ret
    simp
theorem bPL:Con prog 37 [.rd 1 []] (.own 9 1 []):=by refine Con.grown _ ⟨_,func37,by kernel_rfl,rfl⟩ fun fz w vs o=>?_;obtain⟨A,c,rfl⟩:=aPB o;refine(bPK A c w).mono ?_;rintro e w' (h|⟨rfl,rfl⟩);{exact .inl h};{exact .inr ⟨0,#[],rfl,Ext.alloc _ _,heap_alloc_new w _,Nat.zero_le _,rfl,by simp⟩}
theorem aGC:Con prog 85 [.rd 4 []] (.own 33 4 []):=by refine Con.grown _ ⟨_,func85,by kernel_rfl,rfl⟩ fun fz w vs o=>?_;obtain⟨A,c,rfl⟩:=aPB o;refine(bPJ A c w).mono ?_;rintro e w' (h|⟨rfl,rfl⟩);{exact .inl h};{exact .inr ⟨0,#[],rfl,Ext.alloc _ _,heap_alloc_new w _,Nat.zero_le _,rfl,by simp⟩}
end Go.Al
end
section
namespace Go.Al
open Go.Aw Go
def hexD:List UInt8:=[48,49,50,51,52,53,54,55,56,57,97,98,99,100,101,102]
def qG (c:UInt8):List UInt8:=
 if c=34\/c=92 then[92,c]else if c=10 then[92,110]else if c=9 then[92,116]else if 32<=c.toNat/\c.toNat<=126 then[c]
 else[92,120,hexD.getD (c.toNat/16) 0,hexD.getD (c.toNat% 16) 0]
def aAK (l:List UInt8):List UInt8:=34::(l.flatMap qG++[34])
def xY (v:ValD):List UInt8:=
 if v.kind=1 then Lib.formatBool (decide (v.n=1))else if v.kind=2 then Lib.itoa v.n else if v.kind=3 then bl v.s++[98]else aAK (bl v.s)
def rK (sep:List UInt8):List (List UInt8)->List UInt8
 |[]=>[]
 |x::l=>x++l.flatMap (fun y=>sep++y)
def lA (l:List (List UInt8)):List UInt8:=40::(rK [44,32] l++[41])
def aOC (name:ByteArray) (l:List (List UInt8)):List UInt8:=
 if function name=true then bl name++lA l
 else if l.length=1 then[40]++bl name++[32]++l.headD []++[41]
 else 40::(rK ([32]++bl name++[32]) l++[41])
def aGO (e:ExprD):Bool:=decide (e.kind=1)||decide (e.kind=5)||(decide (e.kind=6)&&function e.name)
def ifT:List (List UInt8):=[[40,105,102,32],[32,116,104,101,110,32],[32,101,108,115,101,32]]
mutual
def fF:ExprD->List UInt8
 | .mk kind _ _ name v args=>
  if kind=1 then xY v else if kind=2 then bl name else if kind=3 then[95]else if kind=4 then lA (qV args)
  else if kind=5 then(if args.length=0 then bl name else bl name++lA (qV args))else if kind=6 then aOC name (qV args)
  else if kind=7 then(if(args.head?.map aGO).getD false=true then lA (qV args)else(qV args).headD [])++([46]++bl name)
  else if kind=8 then((ifT.zip (qV args)).flatMap fun(p:List UInt8×List UInt8)=>p.1++p.2)++[41]else[]
def qV:List ExprD->List (List UInt8)
 |[]=>[]
 |e::l=>fF e::qV l
end
theorem aJU:∀l,qV l=l.map fF
 |[]=>rfl
 |e::l=>by rw[qV,List.map_cons,aJU l]
theorem aOY (e:ExprD):fF e=if e.kind=1 then xY e.v else if e.kind=2 then bl e.name else if e.kind=3 then[95]else if e.kind=4 then lA (e.args.map fF) else if e.kind=5 then(if e.args.length=0 then bl e.name else bl e.name++lA (e.args.map fF))else if e.kind=6 then aOC e.name (e.args.map fF) else if e.kind=7 then(if(e.args.head?.map aGO).getD false=true then lA (e.args.map fF)else(e.args.map fF).headD [])++([46]++bl e.name) else if e.kind=8 then((ifT.zip (e.args.map fF)).flatMap fun(p:List UInt8×List UInt8)=>p.1++p.2)++[41]else[]:=by cases e;rw[fF,aJU];rfl
def aEL (v:ValD):Prop:=-9223372036854775808<=v.n/\v.n<=9223372036854775807
mutual
def qF:ExprD->Prop
 | .mk _ _ _ _ v args=>aEL v/\kI args
def kI:List ExprD->Prop
 |[]=>True
 |e::l=>qF e/\kI l
end
theorem aYC (e:ExprD):qF e↔(aEL e.v/\kI e.args):=by cases e;rfl
theorem aAJ:∀ {l:List ExprD},kI l-> ∀e∈l,qF e|x::l,h,e,he=>by rw[kI]at h;rcases List.mem_cons.1 he with rfl|he;{grind};{exact aAJ h.2 e he}
theorem aRD (c:UInt8):(qG c).length<=4:=by grind [qG]
theorem bMG (l:List UInt8):(aAK l).length<=4*l.length+2:=by
 have:(l.flatMap qG).length<=4*l.length:=by induction l with|nil=>simp|cons c l o=>have:=aRD c;simp only[List.flatMap_cons,List.length_append,List.length_cons];omega
 grind [aAK,List.length_cons,List.length_append,List.length_nil]
theorem bFR (v:ValD) (h:aEL v):(xY v).length<=32*aY v:=by have o:=cM v;have A:=dQ v.s;unfold xY;split;{have:(Lib.formatBool (decide (v.n=1))).length<=5:=(by cases decide (v.n=1)<;>decide);omega};{split;{have:=Lib.itoa_length_le v.n h.1 h.2;omega};grind [List.length_append,List.length_cons,List.length_nil,bMG,bl]}
def wI (l:List (List UInt8)):Nat:=(l.map List.length).sum
theorem aCL (sep:List UInt8) (l:List (List UInt8)):(rK sep l).length<=wI l+sep.length*l.length:=by cases l with|nil=>simp[rK]|cons x l=>have:(l.flatMap fun y=>sep++y).length=wI l+sep.length*l.length:=(by induction l with|nil=>rfl|cons y l o=>simp only[List.flatMap_cons,List.length_append,wI,List.map_cons,List.sum_cons,List.length_cons,Nat.mul_add]at o|-;omega);simp only[rK,List.length_append,this,wI,List.map_cons,List.sum_cons,List.length_cons,Nat.mul_add];omega
theorem aFW (l:List (List UInt8)):(lA l).length<=wI l+2*l.length+2:=by grind [aCL,lA,List.length_cons,List.length_append,List.length_nil]
theorem bYH (name:ByteArray) (l:List (List UInt8)) (h:l.length<=2):(aOC name l).length<=wI l+2*name.size+16:=by have o:=dQ name;unfold aOC;split;{grind [aFW,List.length_append]};{split;{cases l with|nil=>grind|cons x l=>grind [wI]};{have:=aCL ([32]++bl name++[32]) l;have A:([32]++bl name++[32]).length*l.length<=([32]++bl name++[32]).length*2:=Nat.mul_le_mul_left _ h;grind}}
theorem cIJ (l:List (List UInt8)):(((ifT.zip l).flatMap fun(p:List UInt8×List UInt8)=>p.1++p.2)++[41]).length<=wI l+20:=by match l with|[]=>simp|[a]=>simp[ifT,wI]|[a,b]=>simp[ifT,wI];omega|a::b::c::r=>simp[ifT,wI];omega
theorem cEL (l:List (List UInt8)):(l.headD []).length<=wI l:=by cases l with|nil=>simp|cons x l=>simp[wI]
theorem aTC {pat:Bool} {e:ExprD} (h:good pat e=true) (hk:e.kind=6):e.args.length<=2:=by rw[pL]at h;simp only[Bool.and_eq_true]at h;have h1:=h.1.1;unfold eH at h1;rw[if_neg (by omega),if_neg (by omega),if_neg (by omega),if_neg (by omega),if_neg (by omega),if_pos hk]at h1;simp only[Bool.and_eq_true,decide_eq_true_eq]at h1;grind [aDU]
mutual
theorem bFS (pat:Bool):∀e:ExprD,good pat e=true->qF e->(fF e).length+3<=36*bI e| .mk kind line col name v args,o,A=>by have D:kS pat args=true:=(by rw[pL]at o;simp only[Bool.and_eq_true]at o;exact o.2);have E:kind=6->args.length<=2:=fun hk=>aTC o hk;rw[qF]at A;have h1:=bFR v A.1;have W:=aXE pat args D A.2;have Y:=dQ name;have S:(qV args).length=args.length:=(by rw[aJU];simp);have Z:=aFW (qV args);rw[fF,bI];by_cases I:kind=1;{rw[if_pos I];omega};rw[if_neg I];by_cases J:kind=2;{rw[if_pos J];omega};rw[if_neg J];by_cases K:kind=3;{rw[if_pos K];simp;omega};rw[if_neg K];by_cases L:kind=4;{rw[if_pos L];omega};rw[if_neg L];by_cases M:kind=5;{rw[if_pos M];by_cases k:args.length=0;{rw[if_pos k];omega};{rw[if_neg k];simp only[List.length_append];omega}};rw[if_neg M];by_cases G:kind=6;{rw[if_pos G];have:=bYH name (qV args) (by rw[S];exact E G);omega};rw[if_neg G];by_cases O:kind=7;{rw[if_pos O];have hh:=cEL (qV args);simp only[List.length_append,List.length_cons,List.length_nil];by_cases k:(args.head?.map aGO).getD false=true;{rw[if_pos k];omega};{rw[if_neg k];omega}};rw[if_neg O];by_cases U:kind=8;{rw[if_pos U];have:=cIJ (qV args);omega};grind
theorem aXE (pat:Bool):∀l:List ExprD,kS pat l=true->kI l->wI (qV l)+3*l.length<=36*aL l
 |[],_,_=>by simp[qV,wI]
 |e::l,o,A=>by simp only[kS,Bool.and_eq_true]at o;rw[kI]at A;have h1:=bFS pat e o.1 A.1;have D:=aXE pat l o.2 A.2;simp only[qV,wI,List.map_cons,List.sum_cons,aL,List.length_cons]at D|-;omega
end
end Go.Al
end
section
open Go Go.Aw Go.Proofs
open Tryz
namespace Go.Al
set_option maxRecDepth 100000
instance:FT prog f290:=.n
instance:FT prog f304:=.n
instance:FT prog f376:=.n
def xL (l:List UInt8):List (List AV):=l.map fun b=>[AV.val (.int .u8 (b.toNat:Int))]
@[simp] theorem cQK (l:List UInt8):(xL l).length=l.length:=by simp[xL]
@[simp] theorem cQL (a b:List UInt8):xL a++xL b=xL (a++b):=by simp[xL]
theorem bJT (s:ByteArray):fW s=xL (bl s):=rfl
@[simp] theorem cQJ (b:UInt8): [[AV.val (.int .u8 (b.toNat:Int))]]=xL [b]:=rfl
def pA (u:Bool):AV:=if u=true then .ptr 1000 0 else .val (.pointer none)
@[simp] theorem bQV:pA true=.ptr 1000 0:=rfl
@[simp] theorem cQG (u:Bool):within [1000] (pA u)=true:=by cases u<;>rfl
@[simp] theorem pA_dem (u:Bool):dem (pA u)=pA u:=by cases u<;>rfl
@[simp] theorem cOB (u:Bool):aG (pA u)=false:=by cases u<;>rfl
def bB (T:Nat) (u:Bool) (l:List UInt8):Blk:=.cells T [pA u,.own 5 1 (xL l)]
def HB (T:Nat) (u:Bool) (l:List UInt8):List (Nat×Blk):=[(1000,bB T u l)]
theorem aIQ (T:Nat) (E:T=302\/T=304) (u:Bool) (l:List UInt8):ConM prog 359 (HB T u l) [.ptr 1000 0] (.tup []) (HB T true l):=by refine ConM.set0 (fun c=>.pointer (some ⟨c,0,none⟩)) (fun _=>.tuple #[]) ⟨_,func359,by kernel_rfl,rfl⟩ rfl (cOB u) rfl (fun fz ρ c h=>by simp only[bQV,Holds];exact⟨c,h,rfl⟩) (fun _=>rfl) (fun fz ρ c _=>by simp only[Holds];exact⟨#[],rfl,by simp[HoldsL]⟩) ?_;intro fz ρ w c v0 v1 o hw A;cases u with|true=>simp only[bQV,Holds]at A;obtain⟨I,h1,rfl⟩:=A;rw[o]at h1;cases h1;refine(Tryz.copy_used c w (by simp[World.cell?,hw])).mono ?_;rintro e w' ⟨rfl,rfl⟩;exact⟨rfl,rfl,rfl,.refl _,rfl,fun _ _=>rfl,hw⟩|false=>have D:v0=.pointer none:=(by simpa[pA,Holds]using A);subst D;refine(Tryz.copy_fresh T E c w (by simp[World.cell?,hw]) (by simp[World.shape?,hw]) (by simp[World.frozen?,hw])).mono ?_;rintro e w' ⟨rfl,rfl⟩;have G:c<w.heap.size:=cE hw;refine⟨rfl,rfl,rfl,⟨rfl,fun _=>Nat.le_refl _⟩,by simp[World.setCell],fun k hk=>?_,?_⟩;{simp only[World.setCell,Array.getElem?_modify];rw[if_neg (fun e=>hk e.symm)]};{simp only[World.setCell,Array.getElem?_modify,if_true,hw,Option.map_some];rfl}
theorem dS {f:Nat} {g:Nat->Option Blk} {vs ts:List AV} {r:AV} {T D:Nat} {u E:Bool} {l G:List UInt8} (I:ConM prog f (HB T u l) ts r (HB D E G)) (o:LtL vs ts) (J:g 1000=some (bB T u l)) (A:bD [1000] ts=true) (hfn:f<YB:=by decide): ∃H ts,aVG prog f g [1000] vs r (HB D E G) H ts:=
 iR I o rfl rfl (by simp[HB,J]) (by simp[HB,bB]) (by simpa[HB]using A) hfn
attribute [local simp] HB bB
theorem kA (T:Nat) (A:T=302\/T=304) (u:Bool) (l:List UInt8) (s:ByteArray) (G:l.length+s.size<=1099511627776): ConM prog 290 (HB T u l) [.ptr 1000 0,aE s] (.tup [aB s.size,.val .nilIface]) (HB T true (l++bl s)):=by have D:=aIQ T A u l;refine ConM.of_code func290 (by kernel_rfl) rfl (by simp[ntmps290]) (by simp[ntmps290]) (eW rfl) (eP rfl) rfl (fun C I E=>?_);refine aA ?_;refine goX [{r:=.tup [],us:=[1000],bs:=HB T true l}] fun K o=>?_;simp;(repeat first|refine ob ?_ |refine⟨by intros;exact dS D (.cons .refl .nil) rfl rfl,?_⟩);refine o _ ?_;refine goX [] fun K o=>?_;simp[bJT];(repeat first|refine ob ?_ |refine⟨by intros;exact⟨by omega,by omega⟩,?_⟩);refine o _ ?_;refine aA ?_;refine .ret ⟨.inr rfl,⟨_,by simp[results290]<;>rfl,?_⟩,?_⟩;{exact .refl};{simp}
theorem aJI (T:Nat) (A:T=302\/T=304) (u:Bool) (l:List UInt8) (c:UInt8) (G:l.length<=1099511627776): ConM prog 304 (HB T u l) [.ptr 1000 0,dC c.toNat] (.val .nilIface) (HB T true (l++[c])):=by have D:=aIQ T A u l;refine ConM.of_code func304 (by kernel_rfl) rfl (by simp[ntmps304]) (by simp[ntmps304]) (eW rfl) (eP rfl) rfl (fun C I E=>?_);refine aA ?_;refine goX [{r:=.tup [],us:=[1000],bs:=HB T true l}] fun K o=>?_;simp;(repeat first|refine ob ?_ |refine⟨by intros;exact dS D (.cons .refl .nil) rfl rfl,?_⟩);refine o _ ?_;refine goX [] fun K o=>?_;simp;(repeat first|refine ob ?_ |refine⟨by intros;exact⟨by omega,by omega⟩,?_⟩);refine o _ ?_;refine aA ?_;refine .ret ⟨.inr rfl,⟨_,by simp[results304]<;>rfl,?_⟩,?_⟩;{exact .refl};{simp}
def cIS:ByteArray:=⟨#[48,49,50,51,52,53,54,55,56,57,97,98,99,100,101,102]⟩
theorem cEK:∀i,i<16->chr cIS i=((hexD.getD i 0).toNat:Int):=by decide+kernel
theorem cRW:∀n:Nat,n<256->cPR .u8 (n:Int) 15=((n% 16:Nat):Int):=by decide+kernel
theorem shr4:∀n:Nat,n<256->bUO .u8 (n:Int) 4=((n/16:Nat):Int):=by decide+kernel
theorem uK (T:Nat) (A:T=302\/T=304) (u:Bool) (l:List UInt8) (c:UInt8) (D:l.length<=1099511627776): ∃o,o=l++[c]/\o.length=l.length+1/\ConM prog 304 (HB T u l) [.ptr 1000 0,dC c.toNat] (.val .nilIface) (HB T true o):=
 ⟨_,rfl,by simp,aJI T A u l c D⟩
theorem bBM (T:Nat) (A:T=302\/T=304) (u:Bool) (l:List UInt8) (s:ByteArray) (D:l.length+s.size<=1099511627776): ∃o,o=l++bl s/\o.length=l.length+s.size/\ConM prog 290 (HB T u l) [.ptr 1000 0,aE s] (.tup [aB s.size,.val .nilIface]) (HB T true o):=
 ⟨_,rfl,by simp[dQ],kA T A u l s D⟩
theorem bMF (l:List UInt8):(l.flatMap qG).length<=4*l.length:=by induction l with|nil=>simp|cons c l o=>have:=aRD c;simp only[List.flatMap_cons,List.length_append,List.length_cons];omega
theorem cBY (T:Nat) (O:T=302\/T=304) (u:Bool) (l:List UInt8) (s:ByteArray) (hs:s.size<=4194304) (hl:l.length<=549755813888): ConM prog 376 (HB T u l) [.ptr 1000 0,aE s] (.tup []) (HB T true (l++aAK (bl s))):=by
 obtain⟨l0,e0,n0,hq⟩:=uK T O u l 34 (by omega);have hq:ConM prog 304 (HB T u l) [.ptr 1000 0,dC 34] (.val .nilIface) (HB T true l0):=hq;have a0:=dQ s;obtain⟨cur,A⟩:∃cur:Nat->List UInt8,∀k,cur k=l0++((bl s).take k).flatMap qG:=⟨_,fun _=>rfl⟩;have af:∀k,(cur k).length<=549755813889+4*k:=by intro k;have h1:=bMF ((bl s).take k);rw[List.length_take]at h1;rw[A k,List.length_append];omega
 obtain⟨E,ab,_,G⟩:=uK T O true (cur s.size) 34 (by have:=af s.size;omega);have G:ConM prog 304 (HB T true (cur s.size)) [.ptr 1000 0,dC 34] (.val .nilIface) (HB T true E):=G;have al:E=l++aAK (bl s):=by rw[ab,A,e0,List.take_of_length_le (by omega)];simp[aAK]
 rw[<-al];have am:cur 0=l0:=by rw[A];simp
 refine ConM.of_code func376 (by kernel_rfl) rfl (by simp[ntmps376]) (by simp[ntmps376]) (eW rfl) (eP rfl) rfl (fun C hC a1=>?_);refine goX [{r:=.val .nilIface,us:=[1000],bs:=HB T true l0}] fun K o=>?_;simp;(repeat first|refine ob ?_ |refine⟨by intros;exact dS hq (.cons .refl (.cons .refl .nil)) rfl rfl,?_⟩);refine o _ ?_;refine aA ?_;refine .block<| .loopG (fun k:Nat=>{tm:=[(0,.ptr 1000 0),(1,aE s),(9,aB s.size),(10,aB k)],hp:=HB T true (cur k)}) (fun k=>k<=s.size) (fun k=>s.size-k) 0 (by omega) (by simp[am]) (fun k hk=>?_);refine aA ?_;refine .seq<| .cnd (fun I=>?_) (fun ag=>?_);{have I:k<s.size:=(by simpa using I);have Z:k<(bl s).length:=(by omega);have S:=aFU s k Z;have ah:cur (k+1)=cur k++qG (bl s)[k]:=(by rw[A,A,List.take_succ_eq_append_getElem Z,List.flatMap_append];simp);generalize(bl s)[k]=c at S ah;have an:=c.toNat_lt;have a2:=af k;have fin:∀q,qG c=q->cur (k+1)=cur k++q:=(by intro q hq;rw[ah,hq]);refine goX [] fun K o=>?_;simp[I,S];refine o _ ?_;refine goX [] fun K o=>?_;simp[I,S];refine ck o ?_;refine goX [] fun K o=>?_;simp[I,S];refine ck o ?_;refine .cnd (fun h1=>?_) (fun h1=>?_);{have hc:c=34\/c=92:=(by rcases(by simpa using h1:(c.toNat:Int)=34\/(c.toNat:Int)=92)with h|h;{exact .inl (UInt8.toNat_inj.1 (by simpa using(by omega:c.toNat=34)))};{exact .inr (UInt8.toNat_inj.1 (by simpa using(by omega:c.toNat=92)))});obtain⟨D,e1,n1,J⟩:=uK T O true (cur k) 92 (by omega);have J:ConM prog 304 (HB T true (cur k)) [.ptr 1000 0,dC 92] (.val .nilIface) (HB T true D):=J;obtain⟨l2,e2,n2,w2⟩:=uK T O true D c (by omega);have aq:l2=cur (k+1):=(by rw[fin [92,c] (by unfold qG;rw[if_pos hc]),e2,e1];simp);subst aq;refine goX [{r:=.val .nilIface,us:=[1000],bs:=HB T true D}] fun K o=>?_;simp;(repeat first|refine ob ?_ |refine⟨by intros;exact dS J (.cons .refl (.cons .refl .nil)) rfl rfl,?_⟩);refine o _ ?_;refine goX [{r:=.val .nilIface,us:=[1000],bs:=HB T true (cur (k+1))}] fun K o=>?_;simp;(repeat first|refine ob ?_ |refine⟨by intros;exact dS w2 (.cons .refl (.cons .refl .nil)) rfl rfl,?_⟩);refine o _ ?_;refine aA ?_;refine⟨k+1,by omega,by omega,?_⟩;simp[aC k (by omega)]};have U:¬ (c=34\/c=92):=(by rintro(rfl|rfl)<;>simp at h1);refine aA ?_;refine .cnd (fun h2=>?_) (fun h2=>?_);{have hc:c=10:=UInt8.toNat_inj.1 (by simpa using(by have:(c.toNat:Int)=10:=(by simpa using h2);omega:c.toNat=10));obtain⟨D,e1,n1,J⟩:=bBM T O true (cur k) ⟨#[92,110]⟩ (by simp[ByteArray.size];omega);have L:D=cur (k+1):=(by rw[fin [92,110] (by unfold qG;rw[if_neg U,if_pos hc]),e1];rfl);subst L;refine goX [{r:=.tup [aB 2,.val .nilIface],us:=[1000],bs:=HB T true (cur (k+1))}] fun K o=>?_;simp;(repeat first|refine ob ?_ |refine⟨by intros;exact dS J (.cons .refl (.cons .refl .nil)) rfl rfl,?_⟩);refine o _ ?_;refine aA ?_;refine⟨k+1,by omega,by omega,?_⟩;simp[aC k (by omega)]};have M:¬c=10:=(by rintro rfl;simp at h2);refine aA ?_;refine .cnd (fun h3=>?_) (fun h3=>?_);{have hc:c=9:=UInt8.toNat_inj.1 (by simpa using(by have:(c.toNat:Int)=9:=(by simpa using h3);omega:c.toNat=9));obtain⟨D,e1,n1,J⟩:=bBM T O true (cur k) ⟨#[92,116]⟩ (by simp[ByteArray.size];omega);have L:D=cur (k+1):=(by rw[fin [92,116] (by unfold qG;rw[if_neg U,if_neg M,if_pos hc]),e1];rfl);subst L;refine goX [{r:=.tup [aB 2,.val .nilIface],us:=[1000],bs:=HB T true (cur (k+1))}] fun K o=>?_;simp;(repeat first|refine ob ?_ |refine⟨by intros;exact dS J (.cons .refl (.cons .refl .nil)) rfl rfl,?_⟩);refine o _ ?_;refine aA ?_;refine⟨k+1,by omega,by omega,?_⟩;simp[aC k (by omega)]};have aa:¬c=9:=(by rintro rfl;simp at h3);refine aA ?_;refine .cnd (fun h4=>?_) (fun h4=>?_);{have hc:32<=c.toNat/\c.toNat<=126:=(by have:(32:Int)<=c.toNat/\(c.toNat:Int)<=126:=(by simpa using h4);omega);obtain⟨D,e1,n1,J⟩:=uK T O true (cur k) c (by omega);have L:D=cur (k+1):=(by rw[fin [c] (by unfold qG;rw[if_neg U,if_neg M,if_neg aa,if_pos hc]),e1]);subst L;refine goX [{r:=.val .nilIface,us:=[1000],bs:=HB T true (cur (k+1))}] fun K o=>?_;simp;(repeat first|refine ob ?_ |refine⟨by intros;exact dS J (.cons .refl (.cons .refl .nil)) rfl rfl,?_⟩);refine o _ ?_;refine aA ?_;refine⟨k+1,by omega,by omega,?_⟩;simp[aC k (by omega)]};have ai:¬ (32<=c.toNat/\c.toNat<=126):=(by intro h;have:¬ ((32:Int)<=c.toNat/\(c.toNat:Int)<=126):=(by simpa using h4);omega);obtain⟨D,e1,n1,J⟩:=bBM T O true (cur k) ⟨#[92,120]⟩ (by simp[ByteArray.size];omega);have n1:D.length=(cur k).length+2:=n1;obtain⟨l2,e2,n2,w2⟩:=uK T O true D (hexD.getD (c.toNat/16) 0) (by omega);obtain⟨l3,e3,n3,w3⟩:=uK T O true l2 (hexD.getD (c.toNat% 16) 0) (by omega);have aw:l3=cur (k+1):=(by rw[fin [92,120,hexD.getD (c.toNat/16) 0,hexD.getD (c.toNat% 16) 0] (by unfold qG;rw[if_neg U,if_neg M,if_neg aa,if_neg ai]),e3,e2,e1];simp only[List.append_assoc];rfl);subst aw;have ax:=shr4 c.toNat (by omega);have ay:=cRW c.toNat (by omega);have W:=cEK (c.toNat/16) (by omega);have Y:=cEK (c.toNat% 16) (by omega);have a7:c.toNat/16<16:=(by omega);have a8:c.toNat% 16<16:=(by omega);refine goX [{r:=.tup [aB 2,.val .nilIface],us:=[1000],bs:=HB T true D}] fun K o=>?_;simp;(repeat first|refine ob ?_ |refine⟨by intros;exact dS J (.cons .refl (.cons .refl .nil)) rfl rfl,?_⟩);refine o _ ?_;have W:chr cIS ((c.toNat:Int)/16).toNat=((hexD.getD (c.toNat/16) 0).toNat:Int):=(by rw[show((c.toNat:Int)/16).toNat=c.toNat/16 by omega];exact W);have Y:chr cIS ((c.toNat:Int)% 16).toNat=((hexD.getD (c.toNat% 16) 0).toNat:Int):=(by rw[show((c.toNat:Int)% 16).toNat=c.toNat% 16 by omega];exact Y);simp only[cIS]at W Y;refine goX [{r:=.val .nilIface,us:=[1000],bs:=HB T true l2}] fun K o=>?_;simp[ax,W];(repeat first|refine ob ?_ |refine⟨by intros;exact⟨by omega,show(c.toNat:Int)/16<16 by omega⟩,?_⟩|refine⟨by intros;exact dS w2 (.cons .refl (.cons .refl .nil)) rfl rfl,?_⟩);refine o _ ?_;refine goX [{r:=.val .nilIface,us:=[1000],bs:=HB T true (cur (k+1))}] fun K o=>?_;simp[ay,Y];(repeat first|refine ob ?_ |refine⟨by intros;exact⟨by omega,show(c.toNat:Int)% 16<16 by omega⟩,?_⟩|refine⟨by intros;exact dS w3 (.cons .refl (.cons .refl .nil)) rfl rfl,?_⟩);refine o _ ?_;refine aA ?_;refine⟨k+1,by omega,by omega,?_⟩;simp[aC k (by omega)]};have ag:¬k<s.size:=by simpa using ag
 have az:k=s.size:=by omega
 subst az;refine .exit ?_;refine goX [{r:=.val .nilIface,us:=[1000],bs:=HB T true E}] fun K o=>?_;simp;(repeat first|refine ob ?_ |refine⟨by intros;exact dS G (.cons .refl (.cons .refl .nil)) rfl rfl,?_⟩);refine o _ ?_;refine⟨.inl rfl,⟨[],rfl,.refl⟩,rfl,?_⟩;simp
end Go.Al
end
section
namespace Go.Al
open Go.Aw Go
mutual
def aAI:PlanD->Prop
 | .mk _ _ _ args _ ins=>kI args/\uP ins
def uP:List PlanD->Prop
 |[]=>True
 |p::l=>aAI p/\uP l
end
theorem bUU (p:PlanD):aAI p↔(kI p.args/\uP p.ins):=by cases p;rfl
theorem aMY:∀ {l:List PlanD},uP l-> ∀e∈l,aAI e|x::l,h,e,he=>by rw[uP]at h;rcases List.mem_cons.1 he with rfl|he;{grind};{exact aMY h.2 e he}
theorem sL:∀l:List PlanD,(∀q∈l,(shape q).2=0)->gL l=(l.map fun q=>(shape q).1,0)
 |[],_=>by rfl
 |p::l,h=>by rw[gL,if_pos (h p (List.mem_cons_self ..)),sL l fun q o=>h q (List.mem_cons_of_mem _ o)];simp
theorem aQN:∀ (l:List PlanD) (k:Nat) (h:k<l.length),(∀q∈l.take k,(shape q).2=0)->(shape l[k]).2≠0->gL l=([],(shape l[k]).2)|p::l,0,_,_,h=>by simp_all [shape,gL,if_neg]|p::l,k+1,hk,o,h=>by rw[gL,if_pos (o p (by simp)),aQN l k (by simpa using hk) (fun q A=>o q (by simp[A])) (by simpa using h)];simp_all
theorem qO (m:List ByteArray):∀l:List ByteArray,(cJ l m).length<=l.length+m.length:=by induction m with|nil=>simp[cJ]|cons a m o=>intro l;have h1:=o (add l a);grind [add,cJ,List.length_cons]
mutual
theorem cJM:∀e:ExprD,(occ e).length<=bI e| .mk kind _ _ name _ args=>by have:=aRS args;grind [occ,bI]
theorem aRS:∀l:List ExprD,(mI l).length<=aL l
 |[]=>by simp[mI]
 |e::l=>by have h1:=cJM e;have o:=aRS l;grind [mI,aL,List.length_append]
end
theorem aXB (l:List ExprD):(fO [] l).length<=aL l:=by grind [aRS,qO,mI,lM]
def aOQ (l:List eL):Nat:=(l.map fun s=>s.names.length).sum
theorem bVO (l:List eL):(l.headD gC).names.length<=aOQ l:=by cases l with|nil=>simp[aOQ,gC]|cons a l=>simp[aOQ]
theorem cCW {s:eL} {l:List eL} (h:s∈l):s.names.length<=aOQ l:=by induction l with|nil=>cases h|cons a l o=>grind [aOQ]
theorem bHN (a b:eL) (l:List eL):a.names.length+b.names.length<=aOQ (a::b::l):=by simp[aOQ,List.map_cons,List.sum_cons]
theorem cJG (p:PlanD) (ins:List eL):(own p ins).1.names.length<=1+aL p.args+aOQ ins:=by have o:=bVO ins;unfold own;split;{simp[gC]};{split;{grind};{split;{simp[gC]};{split;{simp};{simp only;unfold jW;split;{grind [aXB]};{split;{have h1:=qO (ins.getD 1 gC).names (ins.headD gC).names;match ins with|[]=>simp[cJ,gC]|[a]=>simp[gC]at h1 o|-;omega|a::b::l=>have:=bHN a b l;simp at h1|-;omega};grind [add,gC]}}}}}
mutual
theorem aBZ:∀p:PlanD,(shape p).1.names.length<=bC p| .mk op rel name args aggs ins=>by have h:=aEH ins;rw[qX];split;{have h1:=cJG (.mk op rel name args aggs ins) (gL ins).1;simp only[bC,PlanD.args,PlanD.ins]at h1|-;omega};{simp[gC]}
theorem aEH:∀l:List PlanD,aOQ (gL l).1<=eG l
 |[]=>by simp[gL,aOQ]
 |p::l=>by have h1:=aBZ p;have o:=aEH l;grind [gL,aOQ,eG]
end
end Go.Al
end
section
namespace Go.Al
open Go.Aw Go
def eB (p:ExprD):Bool:=decide (cK p<=64)&&good true p
def bnd (s:ByteArray) (l:List Bnd):Prop:=∃b∈l,b.1=s
theorem aUI {s:ByteArray} {l:List Bnd} (h:bnd s l):∃b,gF s l=some b:=by obtain⟨b,o,he⟩:=h;cases A:gF s l with|some b=>simp|none=>have:=List.find?_eq_none.1 A b o;simp_all
theorem bOL {s:ByteArray} {l:List Bnd} (h:gF s l=none):¬bnd s l:=fun⟨b,o,he⟩=>by have:=List.find?_eq_none.1 h b o;simp_all
theorem bWV {p:ExprD} (h:good true p=true) (hk:p.kind=1\/p.kind=2\/p.kind=3):p.args=[]:=by grind [pL,eH]
theorem yP (s:ByteArray):∀ (ps:List ExprD) (acc:List ByteArray),s∈bL acc ps↔s∈acc\/ ∃a∈ps,(a.kind=2/\s=a.name)\/s∈bL [] a.args
 |[],acc=>by simp[bL]
 |a::ps,acc=>by rw[bL,yP s ps,bFL,qJ];have h:s∈(if a.kind=2 then add acc a.name else acc)↔s∈acc\/(a.kind=2/\s=a.name):=(by split;{rename_i hk;rw[aHU];simp[hk]};{rename_i hk;simp[hk]});grind
theorem aGG (ps:List ExprD) (acc:List ByteArray) (s:ByteArray) (h:s∈bL acc ps):s∈acc\/s∈bL [] ps:=by grind [yP]
mutual
theorem aHW:∀ (p:ExprD) (v:ValD) (l:List Bnd),good true p=true->(dY p v l).2=true->(∃m,(dY p v l).1=l++m)/\ ∀s∈oF [] p,bnd s (dY p v l).1| .mk kind line col name I args,v,l,L,o=>by have A:=bWV L;have J:kS true args=true:=(by have:=pL true (.mk kind line col name I args);rw[L]at this;simp only[ExprD.args]at this;cases E:kS true args<;>simp[E]at this|-);have S:=vM args v.l l J;simp only[ExprD.kind,ExprD.args]at A;unfold dY at o|-;by_cases K:kind=3;{rw[if_pos K]at o|-;have G:=A (.inr (.inr K));subst G;refine⟨⟨[],by simp⟩,fun s D=>?_⟩;rw[oF,if_neg (by omega),bL]at D;simp[cJ]at D};rw[if_neg K]at o|-;by_cases h1:kind=1;{rw[if_pos h1]at o|-;have G:=A (.inl h1);subst G;refine⟨⟨[],by simp⟩,fun s D=>?_⟩;rw[oF,if_neg (by omega),bL]at D;simp[cJ]at D};rw[if_neg h1]at o|-;by_cases E:kind=2;{rw[if_pos E]at o|-;have G:=A (.inr (.inl E));subst G;have M:∀s∈oF [] (.mk kind line col name I []),s=name:=(by intro s D;rw[oF,if_pos E,bL]at D;simp[cJ,aHU]at D;exact D);cases O:gF name l with|some b=>refine⟨⟨[],by simp⟩,fun s D=>?_⟩;rw[M s D];exact⟨b,(sR O).1,(sR O).2⟩|none=>refine⟨⟨[(name,v)],rfl⟩,fun s D=>?_⟩;rw[M s D];exact⟨(name,v),by simp,rfl⟩};rw[if_neg E]at o|-;by_cases hu:wF (.mk kind line col name I args) v=true;{rw[if_pos hu]at o;cases o};simp_all [if_neg,oF,qJ]
theorem vM:∀ (ps:List ExprD) (xs:List ValD) (l:List Bnd),kS true ps=true->(dG ps xs l).2=true->(∃m,(dG ps xs l).1=l++m)/\ ∀s,(s∈([]:List ByteArray)\/s∈bL [] ps)->bnd s (dG ps xs l).1
 |[],_,l,_,_=>by simp[dG,bL]
 |_::_,[],l,_,h=>by simp_all [dG]
 |a::ps,x::xs,l,D,A=>by simp only[kS,Bool.and_eq_true]at D;simp only[dG]at A|-;by_cases h:(dY a x l).2=true;{rw[if_pos h]at A|-;obtain⟨⟨m1,e1⟩,G⟩:=aHW a x l D.1 h;obtain⟨⟨m2,E⟩,I⟩:=vM ps xs (dY a x l).1 D.2 A;refine⟨⟨m1++m2,by rw[E,e1,List.append_assoc]⟩,fun s o=>?_⟩;rcases o with o|o;{cases o};{rw[bL]at o;have:s∈oF [] a\/s∈bL [] ps:=aGG ps _ s o;rcases this with o|o;{obtain⟨b,J,he⟩:=G s o;exact⟨b,by rw[E];simp[J],he⟩};{exact I s (.inr o)}}};simp_all
end
theorem lW:∀ (ps:List ExprD) (xs:List ValD) (l:List Bnd),(cH eB ps xs l).2=true->(∃m,(cH eB ps xs l).1=l++m)/\ ∀s∈bL [] ps,bnd s (cH eB ps xs l).1
 |[],_,l,_=>by simp[cH,bL]
 |_::_,[],l,h=>by simp_all [cH]
 |a::ps,x::xs,l,o=>by simp only[cH]at o|-;by_cases h:(fN eB a x l).2=true;{rw[if_pos h]at o|-;obtain⟨⟨m2,D⟩,E⟩:=lW ps xs (fN eB a x l).1 o;unfold fN at h D E|-;split at h;{rename_i G;rw[if_pos G]at D E|-;have I:good true a=true:=(by have:=G.1;unfold eB at this;rw[Bool.and_eq_true]at this;exact this.2);obtain⟨⟨m1,e1⟩,J⟩:=aHW a x l I G.2.2;simp only at D E|-;refine⟨⟨m1++m2,by rw[D,e1,List.append_assoc]⟩,fun s A=>?_⟩;rw[bL]at A;rcases aGG ps _ s A with A|A;{obtain⟨b,K,he⟩:=J s A;exact⟨b,by rw[D];simp[K],he⟩};{exact E s A}};{cases h}};simp_all
theorem aAU {ps:List ExprD} {xs:List ValD} {l:List Bnd} (h:(bR eB ps xs l).2=true) {s:ByteArray} (o:s∈bL [] ps):bnd s (bR eB ps xs l).1:=by unfold bR at h|-;split at h;{rename_i e;rw[if_pos e];exact(lW ps xs l h).2 s o};{cases h}
def zV (s:ByteArray) (l:List Bnd):ValD:=((gF s l).map (·.2)).getD v0
abbrev eD:=List (ByteArray×Rows)
abbrev Tab:=List ByteArray×Rows
def fB (l:List Tab):Rows:=l.flatMap (·.2)
def kX (s:ByteArray) (R:eD):Rows:=((R.find? fun p=>decide (s=p.1)).map (·.2)).getD []
def jN (ps:List ExprD):Rows->Rows
 |[]=>[]
 |r::l=>if(bR eB ps r []).2=true then((bL [] ps).map fun n=>zV n (bR eB ps r []).1)::jN ps l else jN ps l
theorem aXT (ps:List ExprD) (a b:Rows):jN ps (a++b)=jN ps a++jN ps b:=by induction a with|nil=>rfl|cons r a o=>grind [jN,bR,eB]
theorem aQS (ps:List ExprD) (l:Rows) (k:Nat) (h:k<l.length):jN ps (l.take (k+1))=jN ps (l.take k)++(if(bR eB ps l[k] []).2=true then[(bL [] ps).map fun n=>zV n (bR eB ps l[k] []).1]else[]):=by rw[List.take_succ_eq_append_getElem h,aXT];congr 1
theorem aXS (ps:List ExprD) (l:Rows):(jN ps l).length<=l.length:=by induction l with|nil=>simp[jN]|cons r l o=>grind [jN,List.length_cons]
theorem aNJ:∀ (ps:List ExprD) (xs:List ValD) (l:List Bnd) (M:Nat),aJ xs<=M->aDB M l->aDB M (cH eB ps xs l).1/\(cH eB ps xs l).1.length<=l.length+aL ps
 |[],_,l,M,_,o=>by simp_all [cH,aL]
 |_::_,[],l,M,_,o=>by simp only[cH];exact⟨fun b A=>by grind,by simp⟩
 |a::ps,x::xs,l,M,D,o=>by simp only[aJ]at D;have h1:=bBI eB a x l M (by omega) o;have E:=aNJ ps xs (fN eB a x l).1 M (by omega) h1.1;simp only[cH,aL];split;{grind};{exact⟨fun b A=>by grind,by simp⟩}
theorem bHX (ps:List ExprD) (xs:List ValD) (l:List Bnd) (M:Nat) (o:aJ xs<=M) (A:aDB M l):aDB M (bR eB ps xs l).1/\(bR eB ps xs l).1.length<=l.length+aL ps:=by unfold bR;split;{grind [aNJ]};{exact⟨fun b D=>by grind,by simp⟩}
end Go.Al
end
section
namespace Go.Al
open Go.Aw Go
theorem aYL:∀ (n u:Nat),u<=n->u<18446744073709551616->u<256 ^ nb u
 |0,u,h,_=>by grind
 |n+1,u,h,hu=>by grind [cJQ,cJS,Nat.pow_succ]
theorem bQS:∀ (k u w:Nat) (x y:List Int),u<256 ^ k->w<256 ^ k->aIN u k++x=aIN w k++y->u=w/\x=y|0,u,w,x,y,hu,hw,h=>by simp_all|k+1,u,w,x,y,hu,hw,h=>by rw[Nat.pow_succ]at hu hw;simp only[aIN,List.append_assoc]at h;obtain⟨h1,o⟩:=bQS k (u/256) (w/256) _ _ (by omega) (by omega) h;grind
theorem bCM {f:Int} {u w:Nat} {x y:List Int} (hu:u<18446744073709551616) (hw:w<18446744073709551616) (h:rC f u++x=rC f w++y):u=w/\x=y:=by
 simp only[rC,List.cons_append,List.cons.injEq]at h;have hk:nb u=nb w:=by omega
 have o:=h.2;simp only[bEA]at o;rw[hk]at o;exact bQS (nb w) u w x y (by rw[<-hk];exact aYL u u (Nat.le_refl _) hu) (aYL w w (Nat.le_refl _) hw) o
theorem aTF (l:List Int):kT (kT l)=l:=by
 unfold kT;rw[List.map_map];conv=>rhs;rw[<-List.map_id l]
 exact List.map_congr_left fun c _=>by grind
theorem bWZ (a b:List Int):kT (a++b)=kT a++kT b:=by simp[kT]
theorem aZP {a b:List Int} (h:kT a=kT b):a=b:=by grind [aTF]
theorem bQR {a b x y:List Int} (h:kT a++x=kT b++y):a++kT x=b++kT y:=by have:=congrArg kT h;grind [bWZ,aTF]
theorem cJE {n m:Int} {x y:List Int} (h1: -9223372036854775808<=n/\n<=9223372036854775807) (A: -9223372036854775808<=m/\m<=9223372036854775807) (h:zW n++x=zW m++y):n=m/\x=y:=by unfold zW at h;have D:=aYK (-n-1).toNat;have hm:=aYK (-m-1).toNat;split at h;{split at h;{obtain⟨e1,o⟩:=bCM (by omega) (by omega) (bQR h);exact⟨by omega,aZP o⟩};grind [rC,kT,List.cons.injEq]};{split at h;{grind [rC,kT,List.cons.injEq]};{obtain⟨e1,o⟩:=bCM (by omega) (by omega) h;grind}}
theorem aIV {s t:ByteArray} (h:byL s=byL t):s=t:=by grind [vZ,byL,List.map_inj_right,UInt8.toNat_inj]
theorem cCG:∀ (a b x y:List Int),rW a++(0::0::x)=rW b++(0::0::y)->a=b/\x=y
 |[],[],x,y,h=>by simp_all
 |[],d::b,x,y,h=>by grind [rW,bDV]|c::a,[],x,y,h=>by grind [rW,bDV]|c::a,d::b,x,y,h=>by have o:=cCG a b x y;simp only[rW,List.flatMap_cons,List.append_assoc]at h o;unfold bDV at h;split at h;{split at h;{rename_i h1 A;simp only[List.cons_append,List.nil_append,List.cons.injEq,true_and]at h;have:=o h;exact⟨by rw[h1,A,this.1],this.2⟩};simp_all};{split at h;{simp_all};{simp only[List.cons_append,List.nil_append,List.cons.injEq]at h;have:=o h.2;simp[*]}}
theorem cNY {s t:ByteArray} {x y:List Int} (h:uG s++x=uG t++y):s=t/\x=y:=by simp only[uG,List.append_assoc,List.cons_append,List.nil_append]at h;grind [cCG,aIV]
theorem bQT {s t:ByteArray} {x y:List Int} (o:s.size<18446744073709551616) (A:t.size<18446744073709551616) (h:aOU s++x=aOU t++y):s=t/\x=y:=by simp only[aOU,List.cons_append,List.append_assoc,List.cons.injEq,true_and]at h;grind [bCM,byL,nL,List.append_inj,aIV]
theorem bHU {s t:ByteArray} (A:0<s.size) (D:0<t.size) (E:chr s 0=chr t 0) (h:s.extract 1 s.size=t.extract 1 t.size):s=t:=by
 refine aIV ?_;have e1:=aIW s 0 A;have o:=aIW t 0 D;rw[List.drop_zero]at e1 o;rw[e1,o,E];congr 1;have G:∀u:ByteArray,(byL u).drop 1=byL (u.extract 1 u.size):=by intro u;unfold byL;rw[kM,<-List.map_drop,List.take_of_length_le (by rw[List.length_drop,dQ];omega)]
 simp_all
theorem cJF {s t:ByteArray} {x y:List Int} (h1:0<s.size) (o:0<t.size) (D:s.size<18446744073709551616) (E:t.size<18446744073709551616) (h:aBP s++x=aBP t++y):s=t/\x=y:=by have es:=aCP s;have G:=aCP t;unfold aBP at h;split at h;{split at h;{rename_i c1 c2;obtain⟨e1,A⟩:=bQT (by omega) (by omega) (bQR h);exact⟨bHU h1 o (by rw[c1,c2]) e1,aZP A⟩};simp_all [aOU,kT,List.map_cons,List.cons_append,List.cons.injEq]};{split at h;{exfalso;simp only[aOU,kT,List.map_cons,List.cons_append,List.cons.injEq]at h;omega};grind [bQT]}
theorem fT {v:ValD} (h:gW v=true):gB v.l=true/\(v.kind=1->v.s=⟨#[]⟩/\v.l=[])/\(v.kind=2->v.s=⟨#[]⟩/\v.l=[])/\(v.kind=3->v.n=0/\v.l=[]/\fJ v.s=true)/\(v.kind=4->v.n=0/\v.l=[])/\(v.kind=5->v.n=0/\v.s=⟨#[]⟩)/\(v.kind=6->v.n=0):=by rw[qP,Bool.and_eq_true]at h;refine⟨h.2,?_⟩;have h:=h.1;unfold bU at h;refine⟨fun e=>?_,fun e=>?_,fun e=>?_,fun e=>?_,fun e=>?_,fun e=>?_⟩<;>simp[e]at h;{exact⟨h.1.2,h.2⟩};{exact h};{exact⟨h.1.1,h.1.2,h.2⟩};{exact h};{exact⟨h.1.1,h.1.2⟩};{exact h.1}
mutual
theorem cCF:∀ (v w:ValD) (x y:List Int),gW v=true->gW w=true->rng v->rng w->aY v<=1099511627776->aY w<=1099511627776->sV v++x=sV w++y->v=w/\x=y| .mk kind n s l,w,x,y,D,J,E,o,K,L,h=>by obtain⟨A,U,s',M⟩:=w;have O:=sQ D;have G:=fT D;have I:=fT J;simp only[ValD.kind,ValD.n,ValD.s,ValD.l]at O G I;simp only[rng]at E o;simp only[aY]at K L;simp only[sV,List.cons_append,List.cons.injEq]at h;obtain⟨hk,h⟩:=h;subst hk;have S:=fun x y=>bQQ l M x y G.1 I.1 E.2 o.2 (by omega) (by omega);grind [cJE,cJF,kO,cNY]
theorem bQQ:∀ (l m:List ValD) (x y:List Int),gB l=true->gB m=true->iM l->iM m->aJ l<=1099511627776->aJ m<=1099511627776->fY l++(0::x)=fY m++(0::y)->l=m/\x=y
 |[],[],x,y,_,_,_,_,_,_,h=>by simp_all
 |[],w::m,x,y,_,_,_,_,_,_,h=>by grind [fY]
 |v::l,[],x,y,_,_,_,_,_,_,h=>by grind [fY]
 |v::l,w::m,x,y,f1,f2,o,A,s1,s2,h=>by simp only[gB,Bool.and_eq_true]at f1 f2;simp only[iM]at o A;simp only[aJ]at s1 s2;simp only[fY,List.cons_append,List.append_assoc,List.cons.injEq,true_and]at h;obtain⟨e1,D⟩:=cCF v w _ _ f1.1 f2.1 o.1 A.1 (by omega) (by omega) h;obtain⟨E,G⟩:=bQQ l m x y f1.2 f2.2 o.2 A.2 (by omega) (by omega) D;simp[*]
end
def nC (l:List ValD):Prop:=(∀v∈l,cF v=0)/\iM l/\aJ l<=1099511627776
theorem aEP {v:ValD} {l:List ValD} (h:nC (v::l)):(cF v=0/\rng v/\aY v<=1099511627776)/\nC l:=by obtain⟨h1,o,A⟩:=h;simp only[iM]at o;simp only[aJ]at A;exact⟨⟨h1 v (by simp),o.1,by omega⟩,fun w hw=>h1 w (by grind),o.2,by omega⟩
theorem bII:∀l m:List ValD,nC l->nC m->yT l=yT m->l=m|[],[],_,_,_=>rfl|[],w::m,_,_,h=>by simp_all [bBP,yT,List.flatMap_nil,List.flatMap_cons]|v::l,[],_,_,h=>by simp_all [bBP,yT,List.flatMap_nil,List.flatMap_cons]|v::l,w::m,h1,o,h=>by obtain⟨a,b⟩:=aEP h1;obtain⟨c,d⟩:=aEP o;simp only[yT,List.flatMap_cons]at h;obtain⟨e1,A⟩:=cCF v w _ _ (gY a.1) (gY c.1) a.2.1 c.2.1 a.2.2 c.2.2 h;rw[e1,bII l m b d A]
end Go.Al
end
section
namespace Go.Proofs
open Go.Shelf
def Tryz.lays105_ren:Go.Shelf.Ren:=⟨fun|105=>289|212=>357|99=>244|165=>358|166=>290|170=>291|169=>253|263=>397|264=>227|206=>271|240=>359|241=>398|276=>399|277=>414|n=>n,fun|9=>9|3=>3|4=>4|20=>20|0=>0|46=>149|109=>392|5=>5|72=>302|76=>348|51=>190|146=>388|53=>192|148=>265|70=>300|37=>163|75=>288|127=>366|164=>427|80=>306|n=>n,fun|n=>n⟩
theorem Tryz.lays105:Go.Proofs.Lays.n105 Tryz.prog Tryz.lays105_ren:={
 mixed:=by kernel_rfl
 f99:=Tryz.func244.trans (congrArg some (by kernel_rfl))
 f105:=Tryz.func289.trans (congrArg some (by kernel_rfl))
 f165:=Tryz.func358.trans (congrArg some (by kernel_rfl))
 f166:=Tryz.func290.trans (congrArg some (by kernel_rfl))
 f169:=Tryz.func253.trans (congrArg some (by kernel_rfl))
 f170:=Tryz.func291.trans (congrArg some (by kernel_rfl))
 f206:=Tryz.func271.trans (congrArg some (by kernel_rfl))
 f212:=Tryz.func357.trans (congrArg some (by kernel_rfl))
 f240:=Tryz.func359.trans (congrArg some (by kernel_rfl))
 f241:=Tryz.func398.trans (congrArg some (by kernel_rfl))
 f263:=Tryz.func397.trans (congrArg some (by kernel_rfl))
 f264:=Tryz.func227.trans (congrArg some (by kernel_rfl))
 f276:=Tryz.func399.trans (congrArg some (by kernel_rfl))
 f277:=Tryz.func414.trans (congrArg some (by kernel_rfl))
 t0:=Tryz.underlying0
 a0:=Tryz.isAgg0
 z0:=Tryz.sizeOf0
 v0:=Tryz.zeroValue0
 t3:=Tryz.underlying3
 a3:=Tryz.isAgg3
 z3:=Tryz.sizeOf3
 v3:=Tryz.zeroValue3
 t4:=Tryz.underlying4
 a4:=Tryz.isAgg4
 z4:=Tryz.sizeOf4
 v4:=Tryz.zeroValue4
 t5:=Tryz.underlying5
 a5:=Tryz.isAgg5
 z5:=Tryz.sizeOf5
 v5:=Tryz.zeroValue5
 t9:=Tryz.underlying9
 a9:=Tryz.isAgg9
 z9:=Tryz.sizeOf9
 v9:=Tryz.zeroValue9
 t20:=Tryz.underlying20
 a20:=Tryz.isAgg20
 z20:=Tryz.sizeOf20
 v20:=Tryz.zeroValue20
 t37:=Tryz.underlying163
 a37:=Tryz.isAgg163
 z37:=Tryz.sizeOf163
 v37:=Tryz.zeroValue163
 t46:=Tryz.underlying149
 a46:=Tryz.isAgg149
 z46:=Tryz.sizeOf149
 v46:=Tryz.zeroValue149
 t51:=Tryz.underlying190
 a51:=Tryz.isAgg190
 z51:=Tryz.sizeOf190
 v51:=Tryz.zeroValue190
 t53:=Tryz.underlying192
 a53:=Tryz.isAgg192
 z53:=Tryz.sizeOf192
 v53:=Tryz.zeroValue192
 t70:=Tryz.underlying300
 a70:=Tryz.isAgg300
 z70:=Tryz.sizeOf300
 v70:=Tryz.zeroValue300
 t72:=Tryz.underlying302
 a72:=Tryz.isAgg302
 z72:=Tryz.sizeOf302
 v72:=Tryz.zeroValue302
 t75:=Tryz.underlying288
 a75:=Tryz.isAgg288
 z75:=Tryz.sizeOf288
 v75:=Tryz.zeroValue288
 t76:=Tryz.underlying348
 a76:=Tryz.isAgg348
 z76:=Tryz.sizeOf348
 v76:=Tryz.zeroValue348
 t109:=Tryz.underlying392
 a109:=Tryz.isAgg392
 z109:=Tryz.sizeOf392
 v109:=Tryz.zeroValue392
 t127:=Tryz.underlying366
 a127:=Tryz.isAgg366
 z127:=Tryz.sizeOf366
 v127:=Tryz.zeroValue366
 t146:=Tryz.underlying388
 a146:=Tryz.isAgg388
 z146:=Tryz.sizeOf388
 v146:=Tryz.zeroValue388
 t148:=Tryz.underlying265
 a148:=Tryz.isAgg265
 z148:=Tryz.sizeOf265
 v148:=Tryz.zeroValue265
 t164:=Tryz.underlying427
 a164:=Tryz.isAgg427
 z164:=Tryz.sizeOf427
 v164:=Tryz.zeroValue427}
theorem Tryz.Builder_Extra_105:Builder.Extra Tryz.prog Tryz.lays105_ren:={
 sizeBuilder:=by kernel_rfl
 liesBuilder:=by kernel_rfl
 t5:=Tryz.underlying5
 a5:=Tryz.isAgg5
 z5:=Tryz.sizeOf5
 v5:=Tryz.zeroValue5
 infoByte:=by kernel_rfl
 cellsByte:=by kernel_rfl
 sizeByte:=by kernel_rfl
 neB5:=by decide}
open Go.RowKit in
theorem Tryz.strings_Repeat (s:ByteArray) (c:Nat) (w:World) (o:c<=9223372036854775807) (hlen:s.size*c<=140737488355328): Calls Tryz.prog 289 #[.string s,.int .i64 c] w fun e w'=>e=.returned (.string ⟨(Lib.repeatL s.data.toList c).toArray⟩)/\Below w.heap.size w w':=Any.strings_Repeat Tryz.lays105 Tryz.Builder_Extra_105 s c w o hlen
end Go.Proofs
end
section
namespace Go.Al
open Go.Aw Go
theorem bAW:∀ {a b:List Int},rX a->rX b->Lib.bytesOf a=Lib.bytesOf b->a=b
 |[],[],_,_,_=>rfl
 |[],_::_,_,_,h=>by grind [Lib.bytesOf]
 |_::_,[],_,_,h=>by grind [Lib.bytesOf]
 |x::a,y::b,A,D,h=>by have G:=A x (by simp);have I:=D y (by simp);have E:=bAW (a:=a) (b:=b) (fun c o=>A c (by simp[o])) (fun c o=>D c (by simp[o]));simp only[Lib.bytesOf,List.map_cons,List.cons.injEq]at h E;have e:=congrArg UInt8.toNat h.1;grind [isB,UInt8.toNat_ofNat']
theorem aLD:∀ {l:List ValD},nC l->rX (yT l)|[],_=>mF|v::l,h=>by obtain⟨a,b⟩:=aEP h;simp only[yT,List.flatMap_cons];exact xO (aXC v (gY a.1) a.2.1 a.2.2) (aLD b)
theorem aSQ {l m:List ValD} (o:nC l) (hm:nC m) (h:hZ l=hZ m):l=m:=by refine bII l m o hm (bAW (aLD o) (aLD hm) ?_);have:=congrArg ByteArray.toList h;grind [hZ,Lib.strOfNums_toList]
theorem pR {s t:ByteArray} (n:Int) (h:¬t=s):∀l:Cnt,tZ t (vW s n l)=tZ t l
 |[]=>by simp[vW,tZ,h]
 |p::l=>by have o:=pR n h l;simp only[vW];by_cases e:s=p.1;{simp_all [if_pos,tZ,List.find?_cons]};{rw[if_neg e];grind [tZ,decide_false]}
structure cHL (l:Rows) (st:Cnt×Rows):Prop where
 cnt:∀k,(∃r∈l,hZ r=k)↔ ∃n:Int,1<=n/\tZ k st.1=some n
 none:∀k,¬ (∃r∈l,hZ r=k)->tZ k st.1=none
 sub:∀r∈st.2,r∈l
 all:∀r∈l,∃q∈st.2,hZ q=hZ r
 nd:(st.2.map hZ).Nodup
theorem aAF:∀ (l:Rows),cHL l (tF l):=by
 have key:∀ (n:Nat) (l:Rows),l.length=n->cHL l (tF l):=by intro n;induction n with|zero=>intro l G;have:l=[]:=List.eq_nil_of_length_eq_zero G;subst this;exact⟨fun k=>⟨fun⟨r,I,_⟩=>(by cases I),fun⟨n,_,h⟩=>(by simp[tF,tZ]at h)⟩,fun k _=>by simp[tF,tZ],fun r I=>(by simp[tF]at I),fun r I=>(by cases I),(by simp[tF])⟩|succ n O=>intro l G;rcases List.eq_nil_or_concat l with rfl|⟨m,r,rfl⟩;{simp at G};rw[List.concat_eq_append]at G|-;have hm:m.length=n:=(by simpa using G);have h:=O m hm;have e:tF (m++[r])=aCA (tF m) r:=(by unfold tF;rw[List.foldl_append];rfl);rw[e];generalize tF m=st at*;have D:∃c,c=(tZ (hZ r) st.1).getD 0+1:=⟨_,rfl⟩;obtain⟨c,D⟩:=D;have J:aCA st r=(vW (hZ r) c st.1,if c=1 then st.2++[r]else st.2):=(by rw[D];rfl);rw[J];by_cases hex:∃q∈m,hZ q=hZ r;{obtain⟨Y,S,K⟩:=(h.cnt (hZ r)).1 hex;rw[K]at D;simp only[Option.getD_some]at D;have A:¬c=1:=(by omega);refine⟨fun k=>?_,fun k hk=>?_,?_,?_,?_⟩;{by_cases hk:k=hZ r;{subst hk;rw[aCT];exact⟨fun _=>⟨c,by omega,rfl⟩,fun _=>⟨r,by simp,rfl⟩⟩};{rw[pR c hk,<-h.cnt k];constructor;{rintro⟨q,o,e⟩;rcases List.mem_append.1 o with o|o;{exact⟨q,o,e⟩};{rw[List.mem_singleton.1 o]at e;exact absurd e.symm hk}};{rintro⟨q,o,e⟩;exact⟨q,by simp[o],e⟩}}};{have E:¬k=hZ r:=fun e=>hk ⟨r,by simp,e.symm⟩;rw[pR c E];exact h.none k fun⟨q,o,e⟩=>hk ⟨q,by simp[o],e⟩};{simp only[A,if_false];intro q o;exact List.mem_append.2 (.inl (h.sub q o))};{simp only[A,if_false];intro q o;rcases List.mem_append.1 o with o|o;{exact h.all q o};{rw[List.mem_singleton.1 o];obtain⟨p,hp,e⟩:=hex;obtain⟨L,M,J⟩:=h.all p hp;exact⟨L,M,by rw[J,e]⟩}};{simp only[A,if_false];exact h.nd}};{have K:=h.none _ hex;rw[K]at D;simp only[Option.getD_none]at D;have A:c=1:=(by omega);refine⟨fun k=>?_,fun k hk=>?_,?_,?_,?_⟩;{by_cases hk:k=hZ r;{subst hk;rw[aCT];exact⟨fun _=>⟨c,by omega,rfl⟩,fun _=>⟨r,by simp,rfl⟩⟩};{rw[pR c hk,<-h.cnt k];constructor;{rintro⟨q,o,e⟩;rcases List.mem_append.1 o with o|o;{exact⟨q,o,e⟩};{rw[List.mem_singleton.1 o]at e;exact absurd e.symm hk}};{rintro⟨q,o,e⟩;exact⟨q,by simp[o],e⟩}}};{have E:¬k=hZ r:=fun e=>hk ⟨r,by simp,e.symm⟩;rw[pR c E];exact h.none k fun⟨q,o,e⟩=>hk ⟨q,by simp[o],e⟩};{simp only[A,if_true];intro q o;rcases List.mem_append.1 o with o|o;{exact List.mem_append.2 (.inl (h.sub q o))};{exact List.mem_append.2 (.inr o)}};{simp only[A,if_true];intro q o;rcases List.mem_append.1 o with o|o;{obtain⟨L,M,J⟩:=h.all q o;exact⟨L,by simp[M],J⟩};{rw[List.mem_singleton.1 o];exact⟨r,by simp,rfl⟩}};{simp only[A,if_true,List.map_append,List.map_cons,List.map_nil];rw[List.nodup_append];refine⟨h.nd,by simp,fun a U b W=>?_⟩;obtain⟨q,o,rfl⟩:=List.mem_map.1 U;rw[List.mem_singleton.1 W];exact fun e=>hex ⟨q,h.sub q o,e⟩}}
 simp[*]
theorem aQQ {l:Rows} {r:List ValD} (h:r∈rU l):r∈l:=(aAF l).sub r h
theorem wJ {l:Rows} (h:∀r∈l,nC r) (r:List ValD):r∈rU l↔r∈l:=by refine⟨aQQ,fun o=>?_⟩;obtain⟨q,A,e⟩:=(aAF l).all r o;have:=aSQ (h q ((aAF l).sub q A)) (h r o) e;subst this;exact A
theorem nN (l:Rows):(rU l).Nodup:=by have:=(aAF l).nd;rw[List.Nodup,List.pairwise_map]at this;exact this.imp fun h e=>h (by rw[e])
end Go.Al
end
