/- AlgebraParts: the given statement. Condition: what is read is of bulk at most 1048576 (the given form Upto, its tied card). -/
import Derived.Test.YtackjebfmbnkbaaGreatDoorP48
import Derived.Test.YtackjebfmbnkbaaGreatDoorP46
import Derived.Test.YtackjebfmbnkbaaGreatDoorP47
import Derived.Test.YtackjebfmbnkbaaGreatDoorCards
import Derived.Test.YtackjebfmbnkbaaGreatDoorTie
set_option linter.unusedSimpArgs false
set_option linter.unusedVariables false
set_option linter.unusedSectionVars false
namespace Go.Proofs.YtackjebfmbnkbaaGreatDoor.algebraPartsLaw
open Go.ChangeShapes Go.WideShapes Go.ChangeAt Go.RowKit Go.Aw
set_option maxRecDepth 100000
set_option maxHeartbeats 4000000
theorem aGM:(([57,9,23,37]:List TypeId).all fun t=>decide (t<Tryz.prog.types.size))=true:=by kernel_rfl
theorem iQ (H:Type) (enc:TypeId×Value->H) (W:World) (base:Nat) (args:Array Value) (ds gs:List (DataW H)) (before:List MemPlace) (hval:∀ (j:Nat) t v,Tryz.f5.params[j]? =some t->args[j]? =some v->Value.okWide Tryz.prog W .any base t v) (hW:DataW.Whole enc Tryz.prog Tryz.f5.params.toList Rows.algebraPartsSpec.vars false W args.toList ds gs before) (hk:Rows.uptoSmall H (ds++gs)=true) (hg:GLok (frz W)): Calls Tryz.prog 5 args W fun e W'=>∃v,e=.returned v/\Rows.algebraPartsSpec.post enc Tryz.prog Tryz.f5 false true false false W args v W':=by
 have hb:(ds.map Rows.uptoBulk).sum<=1048576:=by have h:Rows.uptoBulkAll (ds++gs)<=1048576:=of_decide_eq_true hk;rw[Al.bulk_all,List.map_append,List.sum_append_nat]at h;omega
 refine yS (P:=Tryz.prog) (fid:=5) (f:=Tryz.f5) (s:=Rows.algebraPartsSpec) (bulk:=Rows.uptoBulk) (tb:=4) rfl (fun ds hl=>?_) (by kernel_rfl) Tryz.underlying4 Al.laidOut Al.rowed Al.full (fun t ht=>by rw[Tryz.params5]at ht;exact of_decide_eq_true (List.all_eq_true.1 aGM t ht)) W base args ds gs before hval hW (by rw[Tryz.params5];exact Al.ops_parts (Al.bulk_ok H)) hg fun x hx=>?_;{rw[Tryz.params5]at hl;match ds,hl with|[d0,d1,d2,d3],_=>rfl};{obtain⟨b1,b2,⟨h1,r1⟩,⟨b3,b4,h2,⟨b5,b6,⟨h3,r3⟩,⟨b7,b8,⟨h4,r4⟩,_,e4⟩,e3⟩,e2⟩,e1⟩:=hx;have h2:x.2.1.size+1<=b3:=h2;have hc:=Al.partsLaw_ok x.1 x.2.1 x.2.2.1 x.2.2.2.1 (by omega) r1 r3 (by omega) fun r hr=>⟨(r4 r hr).1,by have:=(r4 r hr).2;omega⟩;simp only[Al.planX_enc]at hc;exact hc}
theorem aMX (os:Os) {H:Type} (enc:TypeId×Value->H):∃places,DataW.whole enc Tryz.prog ((Al.laidWorld os).forCall (fun _ _=>0) ⟨#[],#[Al.plan0,.string .empty,.slice none 0 0,.slice none 0 0],[]⟩).memory Tryz.f5.params.toList Rows.algebraPartsSpec.vars false #[Al.plan0,.string .empty,.slice none 0 0,.slice none 0 0].toList 8= some ([Al.data0,.lit (.string []),.nil,.nil],[],places):=
 ⟨[],by kernel_rfl⟩
theorem aET:Tryz.checked.prog.inits.idxOf? 5=none:=by kernel_rfl
theorem aEQ (os:Os):Input.okWideB Tryz.checked.prog ((Al.laidWorld os).forCall (fun _ _=>0) ⟨#[],#[Al.plan0,.string .empty,.slice none 0 0,.slice none 0 0],[]⟩) 5 ⟨#[],#[Al.plan0,.string .empty,.slice none 0 0,.slice none 0 0],[]⟩=true:=by kernel_rfl
theorem aRF (os:Os) {H:Type} (enc:TypeId×Value->H):(Rows.OpenSpec.upto Rows.algebraPartsSpec).preRow enc Tryz.checked.prog Tryz.f5 Rows.algebraPartsUptoRow.domain false Rows.algebraPartsUptoRow.laid ((Al.laidWorld os).forCall (fun _ _=>0) ⟨#[],#[Al.plan0,.string .empty,.slice none 0 0,.slice none 0 0],[]⟩).memory #[Al.plan0,.string .empty,.slice none 0 0,.slice none 0 0]:=by obtain⟨places,hx⟩:=aMX os enc;exact OpenSpec.preRow_of_cond 8 hx (by kernel_rfl) (fun k hk=>by cases hk;kernel_rfl) (by kernel_rfl) (Al.laid_met os _)
theorem tD (os:Os) (args:Array Value):((Al.laidWorld os).forCall (fun _ _=>0) ⟨#[],args,[]⟩).Shaped Tryz.checked.prog:=Al.laid_shaped os _
theorem bNM (W:World) (h4:W.ShapedOpen Tryz.checked.prog) (hL:laidMetH Tryz.checked.prog Rows.algebraPartsUptoRow.laid W):GLok (frz W):=Al.gl W h4 hL
theorem aEY (os:Os) (started:os.Started) (H:Type) (enc:TypeId×Value->H) (F:Stop.Interp): ReturnsInHanded {} Tryz.checked os 5 .any ((Rows.OpenSpec.upto Rows.algebraPartsSpec).preRow enc Tryz.prog Tryz.f5 Rows.algebraPartsUptoRow.domain false Rows.algebraPartsUptoRow.laid) (((Rows.OpenSpec.upto Rows.algebraPartsSpec).at F).post enc Tryz.prog Tryz.f5 false true false false):=by refine returnsInHanded_of_row (C:=Tryz.checked) (s:=Rows.OpenSpec.upto Rows.algebraPartsSpec) Al.ownK started aET Tryz.func5 (Al.wit (enc:=enc) (C:=Tryz.checked) (Al.laidWorld os) #[Al.plan0,.string .empty,.slice none 0 0,.slice none 0 0] (World.laidAll_os _ _ _) (tD os _) (aEQ os) (aRF os enc)) ?_;intro W base args ds gs before hval hW h1 h2 h3 hL h4 h5;exact iQ H enc W base args ds gs before hval hW (h2 _ rfl) (bNM W h4 hL)
theorem aAA:Tryz.prog.unfollowed 5=true:=by kernel_rfl
theorem aSW:(Rows.algebraPartsUptoRow.inPlace==Tryz.prog.inPlace 5)=true:=by kernel_rfl
theorem aRU:(Rows.algebraPartsUptoRow.named==Tryz.prog.varsNamed 5)=true:=by kernel_rfl
theorem aEB:(Rows.algebraPartsUptoRow.unfollowed==Tryz.prog.unfollowed 5)=true:=by rw[aAA];rfl
theorem aRC:(Rows.algebraPartsUptoRow.recurses==Tryz.prog.recurses 5)=true:=by
 have h:Tryz.prog.recurses 5=true:=by unfold Program.recurses;rw[aAA,Bool.true_or]
 rw[h];rfl
theorem closed:joinedFacts Tryz.prog 5 Tryz.f5 (Rows.OpenSpec.upto Rows.algebraPartsSpec).bare Rows.algebraPartsUptoRow=true:=by unfold joinedFacts;rw[aEB,aRC,aSW,aRU];simp only[Bool.and_eq_true];and_intros;all_goals first|exact True.intro|as_aux_lemma=>kernel_rfl
theorem tG:Rows.AlgebraPartsUptoSaid:=
 OpenClaim.holds_of_cond 5 Tryz.f5 rfl rfl rfl rfl rfl rfl rfl ⟨rfl,rfl,rfl,rfl,rfl⟩ rfl rfl rfl rfl rfl (by kernel_rfl) Tryz.func5 closed
  (of_decide_eq_true (by kernel_rfl)) (by unfold Func.isWrapper;first|(rw[if_pos (by decide+kernel)];kernel_rfl)|(rw[if_neg (by decide+kernel)];exact⟨rfl,rfl⟩))
  (fun os started H enc _ F=>by rw[OpenClaim.pre_eq_preRow];exact aEY os started H enc F)
theorem plain (f:FuncId) (fn:Func) (hf:Tryz.pinned.checked.prog.funcNamed "corollary/corollarylaw19.AlgebraParts" =some f) (hfn:Tryz.pinned.checked.prog.funcs[f]? =some fn): true=Tryz.pinned.checked.prog.looks []/\ ∀ (j:Nat) t,fn.params[j]? =some t->Tryz.pinned.checked.prog.wantsStandIn t=false:=by
 obtain rfl:f=5:=Option.some.inj ((show Tryz.prog.funcNamed "corollary/corollarylaw19.AlgebraParts" =some 5 by kernel_rfl).symm.trans hf)|>.symm;obtain rfl:fn=Tryz.f5:=(Option.some.inj (Tryz.func5.symm.trans hfn)).symm;refine⟨by kernel_rfl,fun j t ht=>?_⟩;rw[Tryz.params5]at ht;have hm:t∈([57,9,23,37]:List TypeId):=by simpa using Array.mem_of_getElem? ht
 have ha:(([57,9,23,37]:List TypeId).all fun t=>!Tryz.prog.wantsStandIn t)=true:=by kernel_rfl
 have h:=List.all_eq_true.1 ha t hm;show Tryz.prog.wantsStandIn t=false;cases hw:Tryz.prog.wantsStandIn t with
 |false=>rfl
 |true=>rw[hw]at h;cases h
theorem bKZ:Rows.algebraPartsUptoRow.wfByText (Rows.OpenSpec.upto Rows.algebraPartsSpec)=true:=by kernel_rfl
theorem aEV:Tryz.pinned.checked.prog.mainIs=some (Rows.algebraPartsUptoCard.stood.harness.1,Rows.algebraPartsUptoCard.stood.harness.2.toList):=by kernel_rfl
theorem goesAt:false=Rows.algebraPartsUptoRow.goesBy Tryz.pinned.checked.prog:=by
 have hf:Tryz.pinned.checked.prog.funcNamed Rows.algebraPartsUptoRow.func=some 5:=by kernel_rfl
 have h:Tryz.pinned.checked.prog.goesFrom Rows.algebraPartsUptoRow.func=false:=by unfold Program.goesFrom;rw[hf,Option.any_some];exact Al.goes_none 5
 unfold OpenClaim.goesBy Program.goesAt;rw[h];first|rfl|exact(Bool.false_or _).symm
theorem bMI:Rows.AlgebraPartsUptoCardSaid:=
 Claim7.holds_tied_plain_at .later [] _ _ _ _ tG (fun _ h=>by cases h) bKZ (fun _ h=>by cases h) algebraPartsUpto_row_tie rfl ⟨rfl,rfl⟩ aEV rfl plain goesAt
end Go.Proofs.YtackjebfmbnkbaaGreatDoor.algebraPartsLaw
