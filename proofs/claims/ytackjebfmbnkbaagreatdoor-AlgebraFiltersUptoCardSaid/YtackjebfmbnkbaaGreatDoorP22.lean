/- The pen: a copy of bytes, a new pen. -/
import Derived.Test.YtackjebfmbnkbaaGreatDoorP20
import Derived.Test.YtackjebfmbnkbaaGreatDoorP16
import Derived.Test.YtackjebfmbnkbaaGreatDoorP21
set_option linter.unusedSimpArgs false
set_option linter.unusedVariables false
set_option linter.unusedSectionVars false
section
open Go Go.Aw Go.Proofs
open Tryz
namespace Go.Al
set_option maxRecDepth 100000
instance:FT prog f213:=.n
def bt (l:List Int):List (List AV):=l.map fun c=>[dC c]
@[simp] theorem bt_len (l:List Int):(bt l).length=l.length:=by simp[bt]
def bCS:AV:=.val (.slice none 0 0)
def IsB (b:AV) (l:List Int):Prop:=(b=bCS/\l=[])\/(b=.rd 1 (bt l)/\l≠[])
theorem bPQ:Con prog 213 [bCS] (.own 5 1 (bt [])):=by refine Con.oc func213 fun C A D=>?_;refine goX [] fun K o=>?_;simp[bCS];refine o _ ?_;refine goX [] fun K o=>?_;simp[bCS];refine o _ ?_;refine .ct (by simp) ?_;refine aA ?_;refine .forget (s':={tm:=[(2,.own 5 1 (bt []))],hp:=[]}) (by simp[bt]) ?_;exact rtC
theorem bKQ (c:Int) (l:List Int) (A:(c::l).length<=14000000000000):Con prog 213 [.rd 1 (bt (c::l))] (.own 5 1 (bt (c::l))):=by
 refine Con.oc func213 fun C E G=>?_;refine goX [] fun K o=>?_;simp[bt];refine o _ ?_;refine goX [] fun K o=>?_;simp[bt];refine o _ ?_;refine .cf (by simp) ?_;have D:l.length+1<=14000000000000:=by simpa using A
 refine aA ?_;refine .re ?_;exact .clos (by simp[bt]) rfl
theorem bON (s : Value) (w : World) (R : Value -> World -> Prop) (h : Calls prog 213 #[s] w fun e w' => ∃ a n c, e = .returned (.slice a n c) /\ R (.slice a n c) w') :
    Calls prog 151 #[s] w fun e o => ∃ v w', R v w' /\ e = .returned (.pointer (some ⟨w'.heap.size, 0, none⟩)) /\ o = w'.alloc (.cells #[v, .int .u8 0] 206 (0, 0)) /\ v.oneCell' = true := by
  go_enter func151, ntmps151
  go_wp2_with (go_at_call 213; refine h.mono ?_; rintro e w' ⟨a, n, c, rfl, A⟩)
  go_ret
  exact ⟨_, _, A, rfl, rfl, rfl⟩
abbrev bVD:Nat:=206
def aVV (l:List Int) (t:Int):Blk:=.cells bVD [.own 5 1 (bt l),dC t]
theorem bZQ {b:AV} {l:List Int} (o:IsB b l) (A:l.length<=14000000000000):Con prog 213 [b] (.own 5 1 (bt l)):=by rcases o with⟨rfl,rfl⟩|⟨rfl,D⟩;{exact bPQ};{cases l with|nil=>exact absurd rfl D|cons c l=>exact bKQ c l A}
theorem bYR {b:AV} {l:List Int} (hb:IsB b l) (hl:l.length<=14000000000000):ConM prog 151 [] [b] (.ptr 6 0) [(6,aVV l 0)]:=by
 refine⟨⟨_,func151,by kernel_rfl,rfl⟩,rfl,fun fz ρ w vs Z aa hm an O=>?_⟩;have ab:∀x,ρ x=none:=fun x=>hm.dom x rfl;obtain⟨s,hs,hv⟩:∃s,Holds fz b bT s/\vs= #[s]:=by simp only[HoldsL]at O;obtain⟨v,r,e,h1,rfl⟩:=O;refine⟨v,?_,Array.toList_inj.1 (by simpa using e)⟩;rcases hb with⟨rfl,_⟩|⟨rfl,_⟩<;>simpa only[Holds,bCS]using h1
 subst hv;have hC:=(bZQ hb hl).2 fz w #[s] Z aa (by simp only[HoldsL];exact⟨s,[],rfl,hs,rfl⟩);have hB:=bON s w (fun v w'=>∃fz',Ext w w'/\fz.le fz'/\sK fz' w'/\(∀c,c<w.heap.size->(∀o,fz'.cell c o=fz.cell c o)/\fz'.obj c=fz.obj c)/\Holds fz' (.own 5 1 (bt l)) bT v/\bOX fz' w w' 5 1 (bt l) v) (hC.mono (by rintro e w' ⟨v,fz',rfl,h1,h2,J,h4,Y,K⟩;have S:=Y;simp only[Holds]at S;obtain⟨a,c,rfl,_⟩:=S;exact⟨a,_,c,rfl,fz',h1,h2,J,h4,Y,K _ _ _ rfl⟩))
 refine hB.mono ?_;rintro e au ⟨v,w',⟨fz',h1,h2,J,h4,Y,K⟩,rfl,rfl,h7⟩;have G:Ext w' (w'.alloc (.cells #[v,.int .u8 0] bVD (0,0))):=Ext.alloc _ _;have hN:(w'.alloc (.cells #[v,.int .u8 0] bVD (0,0))).heap[w'.heap.size]? =some (.cells #[v,.int .u8 0] bVD (0,0)):=by show(w'.heap.push _)[w'.heap.size]? =_;simp
 have ae:∀o,fz'.cell w'.heap.size o=none:=by intro o;cases I:fz'.cell w'.heap.size o with|none=>rfl|some u=>have:=World.block_lt_of_cell? w' _ (J.1 _ _ _ I);simp at this
 have af:fz'.obj w'.heap.size=none:=by cases I:fz'.obj w'.heap.size with|none=>rfl|some u=>have:=cE (J.2 _ _ I);omega
 let ρ':Aw.Ren:=fun x=>if x=6 then some w'.heap.size else none
 have E:∀p,aG ((hpV (lk [(6,aVV l 0)])).at p)=true->p=.c 6 0:=by intro p hp;cases p with|t i=>cases hp|c L j=>simp only[View.at,hpV,lk]at hp;split at hp;{rename_i e;subst e;simp only[Option.map_some,Option.getD_some,aVV,Blk.at]at hp;match j,hp with|0,_=>rfl|1,hp=>cases hp|j+2,hp=>simp at hp;cases hp};{cases hp}
 have U:bM aMD (w'.alloc (.cells #[v,.int .u8 0] bVD (0,0))) ρ' (.c 6 0)=v:=by simp only[bM,ρ',if_true,cQ,hN];rfl
 have W:cRY fz' ρ' (w'.alloc (.cells #[v,.int .u8 0] bVD (0,0))) 5 1 (bt l) v:=by rcases K with K|⟨g,cap,cur,e1,M,e3,e4,e5,e6,e7,e8⟩;{exact .inl K};{refine .inr ⟨g,cap,cur,e1,G.heap e3,e4,e5,e6,e7,e8,fun L A=>?_⟩;simp only[ρ']at A;split at A;{cases A;have:=cE e3;omega};{cases A}}
 refine⟨_,fz',ρ',rfl,⟨(h1.trans G).os,(h1.trans G).tape,(h1.trans G).output,(h1.trans G).size,fun k hk _=>(h1.trans G).block k hk⟩,h2,⟨fun c o u hu=>G.cell (J.1 c o u hu),fun c o ho=>G.heap (J.2 c o ho)⟩,fun c I _=>h4 c I,?_,fun L c h=>by(rw[ab]at h;cases h),fun L c h=>?_,fun c I=>?_,?_⟩;{refine⟨fun L k hk=>?_,fun L A=>?_,fun b1 b2 c e1 M=>?_,fun p e wd rows hp=>?_,fun p q hp hq g g' n n' c c' _ _ _=>?_⟩;{simp only[lk]at hk;split at hk;{rename_i e;subst e;cases hk;refine⟨w'.heap.size,by simp[ρ'],⟨_,hN,?_,?_⟩,ae,af⟩;{show HoldsL fz' [_,_] ρ' [v,.int .u8 0];simp only[HoldsL];refine⟨v,_,rfl,by simpa only[Holds]using Y,_,_,rfl,by simp[Holds],rfl⟩};{intro u hu;have:u=v\/u=.int .u8 0:=(by simpa using hu);rcases this with rfl|rfl;{exact h7};{rfl}}};{cases hk}};{simp only[lk]at A;split at A;{cases A};{rename_i e;simp only[ρ'];rw[if_neg (fun e'=>e e'.symm)]}};{simp only[ρ']at e1 M;split at e1;{split at M;{rename_i x y;rw[x,y]};{cases M}};{cases e1}};{have:=E p (by rw[hp];rfl);subst this;rw[U];have ah:AV.own 5 1 (bt l)=AV.own e wd rows:=hp;injection ah with a1 a2 a3;subst a1;subst a2;subst a3;exact W};{rw[E p hp,E q hq]}};{simp only[ρ']at h;split at h;{cases h;exact .inr (.inl h1.size)};{cases h}};{rcases I with⟨L,A⟩|⟨p,g,n',al,ho,D,rfl⟩;{simp only[ρ']at A;split at A;{cases A;exact .inl h1.size};{cases A}};{have:=E p ho;subst this;rw[U]at D;rcases K with⟨e1,_⟩|⟨g0,cap,cur,e1,M,_⟩;{rw[e1]at D;cases D};{rw[e1]at D;cases D;exact .inl M}}};grind [Holds]
end Go.Al
end
section
open Go Go.Aw Go.Proofs
open Tryz
namespace Go.Al
set_option maxRecDepth 100000
instance:FT prog f374:=.n
instance:FT prog f303:=.n
attribute [local simp] aP aV
attribute [local simp] HB bB
theorem cOZ {fz:Fz} {w:World} (A:sK fz w) (D:GLok fz):∃t f,w.heap[3]? =some (.cells (pow10s.map fun z=>Value.int .u64 z).toArray t f):=by obtain⟨o,h1,t,f,rfl⟩:=D.1 _ (List.mem_cons_of_mem _ (List.mem_cons_self ..));exact⟨t,f,A.2 _ _ h1⟩
theorem cRL:∀o,prog.globalNamed o=some 3-> ∀ (w:World) t f,w.heap[3]? =some (.cells (pow10s.map fun z=>Value.int .u64 z).toArray t f)->Lib.TabIs prog w o .u64 Lib.pow10Tab:=by intro o A w t f hw;unfold Lib.TabIs World.var?;rw[A];simp only[Option.bind_some,hw];rfl
theorem aWU (b:Bool):Con prog 375 [aD b] (aE ⟨(Lib.formatBool b).toArray⟩):=
 Con.libG [.bool b] _ ⟨_,func375,by kernel_rfl,rfl⟩ fun fz w o A=>by
  refine(Tryz.strconv_FormatBool b w).mono ?_
  rintro e w' ⟨rfl,rfl⟩
  exact⟨rfl,Ext.refl _⟩
theorem zF (n:Int) (o: -9223372036854775808<=n) (h1:n<=9223372036854775807):Con prog 239 [aB n,aB 10] (aE ⟨(Lib.itoa n).toArray⟩):=
 Con.libG [.int .i64 n,.int .i64 10] _ ⟨_,func239,by kernel_rfl,rfl⟩ fun fz w A D=>by
  obtain⟨t,f,hw⟩:=cOZ A D
  refine(Tryz.strconv_FormatInt_10 n o h1 w (cRL _ (by kernel_rfl) w t f hw)).mono ?_
  rintro e w' ⟨rfl,k,os,rfl⟩
  refine⟨rfl,rfl,rfl,⟨rfl,fun _=>Nat.le_add_right _ _⟩,?_,fun k hk=>?_⟩
  ·simp[Go.Sort.grow]
  ·show(w.heap++os)[k]? =_
   exact Array.getElem?_append_left hk
theorem bJV (l:List UInt8):bl ⟨l.toArray⟩=l:=rfl
theorem cHK (u:Bool) (v:ValD) (hk:1<=v.kind/\v.kind<=4) (M:aEL v) (Y:v.s.size<=4194304): ConM prog 374 (HB 302 u []) [aP v,.ptr 1000 0,.unk] (.tup []) (HB 302 true (xY v)):=by
 have G:(302:Nat)=302\/(302:Nat)=304:=.inl rfl;have O:=aWU (decide (v.n=1));have S:=zF v.n M.1 M.2;have Z:(Lib.formatBool (decide (v.n=1))).length<=5:=by cases decide (v.n=1)<;>decide
 have aa:=Lib.itoa_length_le v.n M.1 M.2;have I:=kA 302 G u [] ⟨(Lib.formatBool (decide (v.n=1))).toArray⟩ (by simp[ByteArray.size];omega);have J:=kA 302 G u [] ⟨(Lib.itoa v.n).toArray⟩ (by simp[ByteArray.size];omega);have L:=kA 302 G u [] v.s (by simp;omega);have W:=cBY 302 G u [] v.s Y (by simp);have ab:=dQ v.s;have U:ConM prog 304 (HB 302 true (bl v.s)) [.ptr 1000 0,dC 98] (.val .nilIface) (HB 302 true (bl v.s++[98])):=aJI 302 G true (bl v.s) 98 (by omega);rw[bJV,List.nil_append]at I J;rw[List.nil_append]at L W;refine ConM.of_code func374 (by kernel_rfl) rfl (by simp[ntmps374]) (by simp[ntmps374]) (eW rfl) (eP rfl) rfl (fun C hC ac=>?_);refine bQ ?_;refine .cnd (fun h1=>?_) (fun h1=>?_);{have h1:v.kind=1:=(by simpa using h1);refine goX [{r:=aE ⟨(Lib.formatBool (decide (v.n=1))).toArray⟩},{r:=.tup [aB (Lib.formatBool (decide (v.n=1))).length,.val .nilIface],us:=[1000],bs:=HB 302 true (Lib.formatBool (decide (v.n=1)))}] fun K o=>?_;simp;(repeat first|refine ob ?_ |refine⟨by intros;exact aX rfl O,?_⟩|refine⟨by intros;exact dS I (.cons .refl (.cons .refl .nil)) rfl rfl,?_⟩);refine o _ ?_;refine⟨.inl rfl,⟨[],rfl,.refl⟩,rfl,?_⟩;unfold xY;simp[h1]};have h1:¬v.kind=1:=by simpa using h1
 refine aA ?_;refine .cnd (fun A=>?_) (fun A=>?_);{have A:v.kind=2:=(by simpa using A);refine goX [{r:=aE ⟨(Lib.itoa v.n).toArray⟩},{r:=.tup [aB (Lib.itoa v.n).length,.val .nilIface],us:=[1000],bs:=HB 302 true (Lib.itoa v.n)}] fun K o=>?_;simp;(repeat first|refine ob ?_ |refine⟨by intros;exact aX rfl S,?_⟩|refine⟨by intros;exact dS J (.cons .refl (.cons .refl .nil)) rfl rfl,?_⟩);refine o _ ?_;refine⟨.inl rfl,⟨[],rfl,.refl⟩,rfl,?_⟩;unfold xY;simp[A]};have A:¬v.kind=2:=by simpa using A
 refine aA ?_;refine .cnd (fun D=>?_) (fun D=>?_);{have D:v.kind=3:=(by simpa using D);refine goX [{r:=.tup [aB v.s.size,.val .nilIface],us:=[1000],bs:=HB 302 true (bl v.s)}] fun K o=>?_;simp;(repeat first|refine ob ?_ |refine⟨by intros;exact dS L (.cons .refl (.cons .refl .nil)) rfl rfl,?_⟩);refine o _ ?_;refine goX [{r:=.val .nilIface,us:=[1000],bs:=HB 302 true (bl v.s++[98])}] fun K o=>?_;simp;(repeat first|refine ob ?_ |refine⟨by intros;exact dS U (.cons .refl (.cons .refl .nil)) rfl rfl,?_⟩);refine o _ ?_;refine⟨.inl rfl,⟨[],rfl,.refl⟩,rfl,?_⟩;unfold xY;simp[D]};have D:¬v.kind=3:=by simpa using D
 refine aA ?_;refine .cnd (fun E=>?_) (fun E=>?_);{have E:v.kind=4:=(by simpa using E);refine goX [{r:=.tup [],us:=[1000],bs:=HB 302 true (aAK (bl v.s))}] fun K o=>?_;simp;(repeat first|refine ob ?_ |refine⟨by intros;exact dS W (.cons .refl (.cons .refl .nil)) rfl rfl,?_⟩);refine o _ ?_;refine⟨.inl rfl,⟨[],rfl,.refl⟩,rfl,?_⟩;unfold xY;simp[E]};have E:¬v.kind=4:=by simpa using E
 omega
theorem aMF (T:Nat) (o:AV) (D:aG o=false) (l:List UInt8) (A:l≠[]): ConM prog 253 [(1000,.cells T [o,.own 5 1 (xL l)])] [.ptr 1000 0] (aE ⟨l.toArray⟩) [(1000,.cells T [o,.unk])]:=by refine ConM.text ⟨_,func253,by kernel_rfl,rfl⟩ D A ?_;intro w c g cap v0 cur h1 E G I J K;exact Tryz.string_exact c g cap cur l w A (by simp[World.cell?,h1]) E G I J K
theorem bQB (v:ValD) (A:aEL v):xY v≠[]:=by
 have o:∀l:List UInt8,0<l.length->l≠[]:=fun l h e=>by rw[e]at h;simp at h
 refine o _ ?_;unfold xY;split;{cases decide (v.n=1)<;>decide};{split;{unfold Lib.itoa Lib.decDigits;(repeat' split);all_goals simp};{split;{simp};{simp[aAK]}}}
theorem cML (v:ValD) (hk:1<=v.kind/\v.kind<=4) (G:cF v=0) (E:aEL v) (M:aY v<=4194304):Con prog 303 [aP v] (aE ⟨(xY v).toArray⟩):=by have I:=cM v;have o:=mQ v (by omega);rw[G]at o;have J:=cHK false v hk E (by omega);have A:=aMF 302 (.ptr 1000 0) rfl (xY v) (bQB v E);refine Con.oc func303 fun C O L=>?_;refine aA ?_;refine goC [{r:=aB 0}] ?_;refine .cf (by simp) ?_;refine cES ?_;refine .seq<| .renP L 3 1000 (by decide) (by simp) _ rfl ?_;refine .forget (s':={tm:=[(1,.ptr 1 0),(3,.ptr 1000 0),(4,.ptr 4 0)],hp:=[(1,.cells 33 (bA v)),(1000,bB 302 false []),(4,.cells 204 [.clo (.func 374) [.ptr 1000 0,.ptr 5 0]]),(5,.cells 408 [.unk])]}) (by simp[pA,xL]) ?_;refine goX [{r:=.tup [],us:=[1000],bs:=HB 302 true (xY v)}] fun K D=>?_;simp;(repeat first|refine ob ?_ |refine⟨by intros;exact dS J (.cons .refl (.cons .refl (.cons .unk .nil))) rfl rfl,?_⟩);refine D _ ?_;refine goX [{r:=aE ⟨(xY v).toArray⟩,us:=[1000],bs:=[(1000,.cells 302 [.ptr 1000 0,.unk])]}] fun K D=>?_;simp;(repeat first|refine ob ?_ |refine⟨by intros;exact iR A (.cons .refl .nil) rfl rfl (by simp) (by simp) (by simp),?_⟩);refine D _ ?_;exact rtC
end Go.Al
end
