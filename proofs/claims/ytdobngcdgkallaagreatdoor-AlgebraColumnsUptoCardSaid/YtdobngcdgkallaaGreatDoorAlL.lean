/- The library's searches in lists; all, deepest. -/
import Derived.Test.YtdobngcdgkallaaGreatDoorAlJ
set_option linter.unusedSimpArgs false
set_option linter.unusedVariables false
set_option linter.unusedSectionVars false
open Go Go.Aw Go.Proofs
namespace Go.Al
set_option maxRecDepth 20000
-- function 54: slices.IndexFunc[[]corollary/algebra.shape,corollary/algebra.shape]
def F54r0 : List ROp := [⟨some 4,.copy true (.const (.int .i64 0)),[],none⟩]
def F54r1 : List ROp := [⟨some 6,.copy false (.tmp 0),[],none⟩,
 ⟨some 7,.len 0 (.tmp 6),[],none⟩,
 ⟨some 8,.copy false (.const (.int .i64 0)),[],none⟩]
def F54r2 : List ROp := [⟨some 9,.bin .lss (.tmp 8) (.tmp 7),[],none⟩]
def F54r3 : List ROp := [⟨some 10,.copy true (.tmp 8),[],none⟩,
 ⟨some 5,.copy true (.tmp 10),[],none⟩]
def F54r4 : List ROp := [⟨some 11,.copy false (.tmp 1),[],none⟩,
 ⟨some 12,.copy false (.tmp 0),[],none⟩,
 ⟨some 13,.copy false (.tmp 5),[],none⟩,
 ⟨some 14,.iad 3 (.tmp 12) (.tmp 13),[],none⟩,
 ⟨some 15,.load 3 true false (.tmp 14),[],none⟩,
 ⟨some 16,.call (.tmp 11) [.tmp 15],[],none⟩]
def F54r5 : List ROp := [⟨some 17,.copy true (.tmp 5),[],none⟩,
 ⟨some 4,.copy true (.tmp 17),[],none⟩]
def F54r6 : List ROp := [⟨some 18,.bin .add (.tmp 8) (.const (.int .i64 1)),[],none⟩,
 ⟨some 8,.copy false (.tmp 18),[],none⟩]
def F54r7 : List ROp := [⟨some 4,.copy true (.const (.int .i64 (-1))),[],none⟩]
-- function 41: slices.ContainsFunc[[]corollary/algebra.shape,corollary/algebra.shape]
def F41r0 : List ROp := [⟨some 4,.copy true (.const (.bool false)),[],none⟩]
def F41r1 : List ROp := [⟨some 5,.copy false (.tmp 0),[],none⟩,
 ⟨some 6,.copy false (.tmp 1),[],none⟩,
 ⟨some 7,.call (.func 54) [.tmp 5,.tmp 6],[],none⟩,
 ⟨some 8,.bin .geq (.tmp 7) (.const (.int .i64 0)),[],none⟩,
 ⟨some 4,.copy true (.tmp 8),[],none⟩]
-- function 45: slices.IndexFunc[[]string,string]
def F45r0 : List ROp := [⟨some 4,.copy true (.const (.int .i64 0)),[],none⟩]
def F45r1 : List ROp := [⟨some 6,.copy false (.tmp 0),[],none⟩,
 ⟨some 7,.len 0 (.tmp 6),[],none⟩,
 ⟨some 8,.copy false (.const (.int .i64 0)),[],none⟩]
def F45r2 : List ROp := [⟨some 9,.bin .lss (.tmp 8) (.tmp 7),[],none⟩]
def F45r3 : List ROp := [⟨some 10,.copy true (.tmp 8),[],none⟩,
 ⟨some 5,.copy true (.tmp 10),[],none⟩]
def F45r4 : List ROp := [⟨some 11,.copy false (.tmp 1),[],none⟩,
 ⟨some 12,.copy false (.tmp 0),[],none⟩,
 ⟨some 13,.copy false (.tmp 5),[],none⟩,
 ⟨some 14,.iad 1 (.tmp 12) (.tmp 13),[],none⟩,
 ⟨some 15,.load 1 false false (.tmp 14),[],none⟩,
 ⟨some 16,.call (.tmp 11) [.tmp 15],[],none⟩]
def F45r5 : List ROp := [⟨some 17,.copy true (.tmp 5),[],none⟩,
 ⟨some 4,.copy true (.tmp 17),[],none⟩]
def F45r6 : List ROp := [⟨some 18,.bin .add (.tmp 8) (.const (.int .i64 1)),[],none⟩,
 ⟨some 8,.copy false (.tmp 18),[],none⟩]
def F45r7 : List ROp := [⟨some 4,.copy true (.const (.int .i64 (-1))),[],none⟩]
-- function 30: slices.ContainsFunc[[]string,string]
def F30r0 : List ROp := [⟨some 4,.copy true (.const (.bool false)),[],none⟩]
def F30r1 : List ROp := [⟨some 5,.copy false (.tmp 0),[],none⟩,
 ⟨some 6,.copy false (.tmp 1),[],none⟩,
 ⟨some 7,.call (.func 45) [.tmp 5,.tmp 6],[],none⟩,
 ⟨some 8,.bin .geq (.tmp 7) (.const (.int .i64 0)),[],none⟩,
 ⟨some 4,.copy true (.tmp 8),[],none⟩]
-- function 175: slices.IndexFunc[[]corollary/api.Literal,corollary/api.Literal]
def F175r0 : List ROp := [⟨some 4,.copy true (.const (.int .i64 0)),[],none⟩]
def F175r1 : List ROp := [⟨some 6,.copy false (.tmp 0),[],none⟩,
 ⟨some 7,.len 0 (.tmp 6),[],none⟩,
 ⟨some 8,.copy false (.const (.int .i64 0)),[],none⟩]
def F175r2 : List ROp := [⟨some 9,.bin .lss (.tmp 8) (.tmp 7),[],none⟩]
def F175r3 : List ROp := [⟨some 10,.copy true (.tmp 8),[],none⟩,
 ⟨some 5,.copy true (.tmp 10),[],none⟩]
def F175r4 : List ROp := [⟨some 11,.copy false (.tmp 1),[],none⟩,
 ⟨some 12,.copy false (.tmp 0),[],none⟩,
 ⟨some 13,.copy false (.tmp 5),[],none⟩,
 ⟨some 14,.iad 5 (.tmp 12) (.tmp 13),[],none⟩,
 ⟨some 15,.load 5 true false (.tmp 14),[],none⟩,
 ⟨some 16,.call (.tmp 11) [.tmp 15],[],none⟩]
def F175r5 : List ROp := [⟨some 17,.copy true (.tmp 5),[],none⟩,
 ⟨some 4,.copy true (.tmp 17),[],none⟩]
def F175r6 : List ROp := [⟨some 18,.bin .add (.tmp 8) (.const (.int .i64 1)),[],none⟩,
 ⟨some 8,.copy false (.tmp 18),[],none⟩]
def F175r7 : List ROp := [⟨some 4,.copy true (.const (.int .i64 (-1))),[],none⟩]
-- function 142: slices.ContainsFunc[[]corollary/api.Literal,corollary/api.Literal]
def F142r0 : List ROp := [⟨some 4,.copy true (.const (.bool false)),[],none⟩]
def F142r1 : List ROp := [⟨some 5,.copy false (.tmp 0),[],none⟩,
 ⟨some 6,.copy false (.tmp 1),[],none⟩,
 ⟨some 7,.call (.func 175) [.tmp 5,.tmp 6],[],none⟩,
 ⟨some 8,.bin .geq (.tmp 7) (.const (.int .i64 0)),[],none⟩,
 ⟨some 4,.copy true (.tmp 8),[],none⟩]
-- function 174: slices.IndexFunc[[]corollary/api.Never,corollary/api.Never]
def F174r0 : List ROp := [⟨some 4,.copy true (.const (.int .i64 0)),[],none⟩]
def F174r1 : List ROp := [⟨some 6,.copy false (.tmp 0),[],none⟩,
 ⟨some 7,.len 0 (.tmp 6),[],none⟩,
 ⟨some 8,.copy false (.const (.int .i64 0)),[],none⟩]
def F174r2 : List ROp := [⟨some 9,.bin .lss (.tmp 8) (.tmp 7),[],none⟩]
def F174r3 : List ROp := [⟨some 10,.copy true (.tmp 8),[],none⟩,
 ⟨some 5,.copy true (.tmp 10),[],none⟩]
def F174r4 : List ROp := [⟨some 11,.copy false (.tmp 1),[],none⟩,
 ⟨some 12,.copy false (.tmp 0),[],none⟩,
 ⟨some 13,.copy false (.tmp 5),[],none⟩,
 ⟨some 14,.iad 4 (.tmp 12) (.tmp 13),[],none⟩,
 ⟨some 15,.load 4 true false (.tmp 14),[],none⟩,
 ⟨some 16,.call (.tmp 11) [.tmp 15],[],none⟩]
def F174r5 : List ROp := [⟨some 17,.copy true (.tmp 5),[],none⟩,
 ⟨some 4,.copy true (.tmp 17),[],none⟩]
def F174r6 : List ROp := [⟨some 18,.bin .add (.tmp 8) (.const (.int .i64 1)),[],none⟩,
 ⟨some 8,.copy false (.tmp 18),[],none⟩]
def F174r7 : List ROp := [⟨some 4,.copy true (.const (.int .i64 (-1))),[],none⟩]
-- function 140: slices.ContainsFunc[[]corollary/api.Never,corollary/api.Never]
def F140r0 : List ROp := [⟨some 4,.copy true (.const (.bool false)),[],none⟩]
def F140r1 : List ROp := [⟨some 5,.copy false (.tmp 0),[],none⟩,
 ⟨some 6,.copy false (.tmp 1),[],none⟩,
 ⟨some 7,.call (.func 174) [.tmp 5,.tmp 6],[],none⟩,
 ⟨some 8,.bin .geq (.tmp 7) (.const (.int .i64 0)),[],none⟩,
 ⟨some 4,.copy true (.tmp 8),[],none⟩]
-- function 67: slices.IndexFunc[[]corollary/api.Expr,corollary/api.Expr]
def F67r0 : List ROp := [⟨some 4,.copy true (.const (.int .i64 0)),[],none⟩]
def F67r1 : List ROp := [⟨some 6,.copy false (.tmp 0),[],none⟩,
 ⟨some 7,.len 0 (.tmp 6),[],none⟩,
 ⟨some 8,.copy false (.const (.int .i64 0)),[],none⟩]
def F67r2 : List ROp := [⟨some 9,.bin .lss (.tmp 8) (.tmp 7),[],none⟩]
def F67r3 : List ROp := [⟨some 10,.copy true (.tmp 8),[],none⟩,
 ⟨some 5,.copy true (.tmp 10),[],none⟩]
def F67r4 : List ROp := [⟨some 11,.copy false (.tmp 1),[],none⟩,
 ⟨some 12,.copy false (.tmp 0),[],none⟩,
 ⟨some 13,.copy false (.tmp 5),[],none⟩,
 ⟨some 14,.iad 9 (.tmp 12) (.tmp 13),[],none⟩,
 ⟨some 15,.load 9 true false (.tmp 14),[],none⟩,
 ⟨some 16,.call (.tmp 11) [.tmp 15],[],none⟩]
def F67r5 : List ROp := [⟨some 17,.copy true (.tmp 5),[],none⟩,
 ⟨some 4,.copy true (.tmp 17),[],none⟩]
def F67r6 : List ROp := [⟨some 18,.bin .add (.tmp 8) (.const (.int .i64 1)),[],none⟩,
 ⟨some 8,.copy false (.tmp 18),[],none⟩]
def F67r7 : List ROp := [⟨some 4,.copy true (.const (.int .i64 (-1))),[],none⟩]
-- function 55: slices.ContainsFunc[[]corollary/api.Expr,corollary/api.Expr]
def F55r0 : List ROp := [⟨some 4,.copy true (.const (.bool false)),[],none⟩]
def F55r1 : List ROp := [⟨some 5,.copy false (.tmp 0),[],none⟩,
 ⟨some 6,.copy false (.tmp 1),[],none⟩,
 ⟨some 7,.call (.func 67) [.tmp 5,.tmp 6],[],none⟩,
 ⟨some 8,.bin .geq (.tmp 7) (.const (.int .i64 0)),[],none⟩,
 ⟨some 4,.copy true (.tmp 8),[],none⟩]
-- function 37: slices.IndexFunc[[]corollary/algebra.Plan,corollary/algebra.Plan]
def F37r0 : List ROp := [⟨some 4,.copy true (.const (.int .i64 0)),[],none⟩]
def F37r1 : List ROp := [⟨some 6,.copy false (.tmp 0),[],none⟩,
 ⟨some 7,.len 0 (.tmp 6),[],none⟩,
 ⟨some 8,.copy false (.const (.int .i64 0)),[],none⟩]
def F37r2 : List ROp := [⟨some 9,.bin .lss (.tmp 8) (.tmp 7),[],none⟩]
def F37r3 : List ROp := [⟨some 10,.copy true (.tmp 8),[],none⟩,
 ⟨some 5,.copy true (.tmp 10),[],none⟩]
def F37r4 : List ROp := [⟨some 11,.copy false (.tmp 1),[],none⟩,
 ⟨some 12,.copy false (.tmp 0),[],none⟩,
 ⟨some 13,.copy false (.tmp 5),[],none⟩,
 ⟨some 14,.iad 6 (.tmp 12) (.tmp 13),[],none⟩,
 ⟨some 15,.load 6 true false (.tmp 14),[],none⟩,
 ⟨some 16,.call (.tmp 11) [.tmp 15],[],none⟩]
def F37r5 : List ROp := [⟨some 17,.copy true (.tmp 5),[],none⟩,
 ⟨some 4,.copy true (.tmp 17),[],none⟩]
def F37r6 : List ROp := [⟨some 18,.bin .add (.tmp 8) (.const (.int .i64 1)),[],none⟩,
 ⟨some 8,.copy false (.tmp 18),[],none⟩]
def F37r7 : List ROp := [⟨some 4,.copy true (.const (.int .i64 (-1))),[],none⟩]
-- function 24: slices.ContainsFunc[[]corollary/algebra.Plan,corollary/algebra.Plan]
def F24r0 : List ROp := [⟨some 4,.copy true (.const (.bool false)),[],none⟩]
def F24r1 : List ROp := [⟨some 5,.copy false (.tmp 0),[],none⟩,
 ⟨some 6,.copy false (.tmp 1),[],none⟩,
 ⟨some 7,.call (.func 37) [.tmp 5,.tmp 6],[],none⟩,
 ⟨some 8,.bin .geq (.tmp 7) (.const (.int .i64 0)),[],none⟩,
 ⟨some 4,.copy true (.tmp 8),[],none⟩]
-- function 161: slices.IndexFunc[[]corollary/api.Import,corollary/api.Import]
def F161r0 : List ROp := [⟨some 4,.copy true (.const (.int .i64 0)),[],none⟩]
def F161r1 : List ROp := [⟨some 6,.copy false (.tmp 0),[],none⟩,
 ⟨some 7,.len 0 (.tmp 6),[],none⟩,
 ⟨some 8,.copy false (.const (.int .i64 0)),[],none⟩]
def F161r2 : List ROp := [⟨some 9,.bin .lss (.tmp 8) (.tmp 7),[],none⟩]
def F161r3 : List ROp := [⟨some 10,.copy true (.tmp 8),[],none⟩,
 ⟨some 5,.copy true (.tmp 10),[],none⟩]
def F161r4 : List ROp := [⟨some 11,.copy false (.tmp 1),[],none⟩,
 ⟨some 12,.copy false (.tmp 0),[],none⟩,
 ⟨some 13,.copy false (.tmp 5),[],none⟩,
 ⟨some 14,.iad 3 (.tmp 12) (.tmp 13),[],none⟩,
 ⟨some 15,.load 3 true false (.tmp 14),[],none⟩,
 ⟨some 16,.call (.tmp 11) [.tmp 15],[],none⟩]
def F161r5 : List ROp := [⟨some 17,.copy true (.tmp 5),[],none⟩,
 ⟨some 4,.copy true (.tmp 17),[],none⟩]
def F161r6 : List ROp := [⟨some 18,.bin .add (.tmp 8) (.const (.int .i64 1)),[],none⟩,
 ⟨some 8,.copy false (.tmp 18),[],none⟩]
def F161r7 : List ROp := [⟨some 4,.copy true (.const (.int .i64 (-1))),[],none⟩]
-- function 122: slices.ContainsFunc[[]corollary/api.Import,corollary/api.Import]
def F122r0 : List ROp := [⟨some 4,.copy true (.const (.bool false)),[],none⟩]
def F122r1 : List ROp := [⟨some 5,.copy false (.tmp 0),[],none⟩,
 ⟨some 6,.copy false (.tmp 1),[],none⟩,
 ⟨some 7,.call (.func 161) [.tmp 5,.tmp 6],[],none⟩,
 ⟨some 8,.bin .geq (.tmp 7) (.const (.int .i64 0)),[],none⟩,
 ⟨some 4,.copy true (.tmp 8),[],none⟩]
-- function 162: slices.IndexFunc[[]corollary/api.TypeDef,corollary/api.TypeDef]
def F162r0 : List ROp := [⟨some 4,.copy true (.const (.int .i64 0)),[],none⟩]
def F162r1 : List ROp := [⟨some 6,.copy false (.tmp 0),[],none⟩,
 ⟨some 7,.len 0 (.tmp 6),[],none⟩,
 ⟨some 8,.copy false (.const (.int .i64 0)),[],none⟩]
def F162r2 : List ROp := [⟨some 9,.bin .lss (.tmp 8) (.tmp 7),[],none⟩]
def F162r3 : List ROp := [⟨some 10,.copy true (.tmp 8),[],none⟩,
 ⟨some 5,.copy true (.tmp 10),[],none⟩]
def F162r4 : List ROp := [⟨some 11,.copy false (.tmp 1),[],none⟩,
 ⟨some 12,.copy false (.tmp 0),[],none⟩,
 ⟨some 13,.copy false (.tmp 5),[],none⟩,
 ⟨some 14,.iad 6 (.tmp 12) (.tmp 13),[],none⟩,
 ⟨some 15,.load 6 true false (.tmp 14),[],none⟩,
 ⟨some 16,.call (.tmp 11) [.tmp 15],[],none⟩]
def F162r5 : List ROp := [⟨some 17,.copy true (.tmp 5),[],none⟩,
 ⟨some 4,.copy true (.tmp 17),[],none⟩]
def F162r6 : List ROp := [⟨some 18,.bin .add (.tmp 8) (.const (.int .i64 1)),[],none⟩,
 ⟨some 8,.copy false (.tmp 18),[],none⟩]
def F162r7 : List ROp := [⟨some 4,.copy true (.const (.int .i64 (-1))),[],none⟩]
-- function 124: slices.ContainsFunc[[]corollary/api.TypeDef,corollary/api.TypeDef]
def F124r0 : List ROp := [⟨some 4,.copy true (.const (.bool false)),[],none⟩]
def F124r1 : List ROp := [⟨some 5,.copy false (.tmp 0),[],none⟩,
 ⟨some 6,.copy false (.tmp 1),[],none⟩,
 ⟨some 7,.call (.func 162) [.tmp 5,.tmp 6],[],none⟩,
 ⟨some 8,.bin .geq (.tmp 7) (.const (.int .i64 0)),[],none⟩,
 ⟨some 4,.copy true (.tmp 8),[],none⟩]
-- function 167: slices.IndexFunc[[]corollary/api.RelDef,corollary/api.RelDef]
def F167r0 : List ROp := [⟨some 4,.copy true (.const (.int .i64 0)),[],none⟩]
def F167r1 : List ROp := [⟨some 6,.copy false (.tmp 0),[],none⟩,
 ⟨some 7,.len 0 (.tmp 6),[],none⟩,
 ⟨some 8,.copy false (.const (.int .i64 0)),[],none⟩]
def F167r2 : List ROp := [⟨some 9,.bin .lss (.tmp 8) (.tmp 7),[],none⟩]
def F167r3 : List ROp := [⟨some 10,.copy true (.tmp 8),[],none⟩,
 ⟨some 5,.copy true (.tmp 10),[],none⟩]
def F167r4 : List ROp := [⟨some 11,.copy false (.tmp 1),[],none⟩,
 ⟨some 12,.copy false (.tmp 0),[],none⟩,
 ⟨some 13,.copy false (.tmp 5),[],none⟩,
 ⟨some 14,.iad 6 (.tmp 12) (.tmp 13),[],none⟩,
 ⟨some 15,.load 6 true false (.tmp 14),[],none⟩,
 ⟨some 16,.call (.tmp 11) [.tmp 15],[],none⟩]
def F167r5 : List ROp := [⟨some 17,.copy true (.tmp 5),[],none⟩,
 ⟨some 4,.copy true (.tmp 17),[],none⟩]
def F167r6 : List ROp := [⟨some 18,.bin .add (.tmp 8) (.const (.int .i64 1)),[],none⟩,
 ⟨some 8,.copy false (.tmp 18),[],none⟩]
def F167r7 : List ROp := [⟨some 4,.copy true (.const (.int .i64 (-1))),[],none⟩]
-- function 130: slices.ContainsFunc[[]corollary/api.RelDef,corollary/api.RelDef]
def F130r0 : List ROp := [⟨some 4,.copy true (.const (.bool false)),[],none⟩]
def F130r1 : List ROp := [⟨some 5,.copy false (.tmp 0),[],none⟩,
 ⟨some 6,.copy false (.tmp 1),[],none⟩,
 ⟨some 7,.call (.func 167) [.tmp 5,.tmp 6],[],none⟩,
 ⟨some 8,.bin .geq (.tmp 7) (.const (.int .i64 0)),[],none⟩,
 ⟨some 4,.copy true (.tmp 8),[],none⟩]
-- function 171: slices.IndexFunc[[]corollary/api.Rule,corollary/api.Rule]
def F171r0 : List ROp := [⟨some 4,.copy true (.const (.int .i64 0)),[],none⟩]
def F171r1 : List ROp := [⟨some 6,.copy false (.tmp 0),[],none⟩,
 ⟨some 7,.len 0 (.tmp 6),[],none⟩,
 ⟨some 8,.copy false (.const (.int .i64 0)),[],none⟩]
def F171r2 : List ROp := [⟨some 9,.bin .lss (.tmp 8) (.tmp 7),[],none⟩]
def F171r3 : List ROp := [⟨some 10,.copy true (.tmp 8),[],none⟩,
 ⟨some 5,.copy true (.tmp 10),[],none⟩]
def F171r4 : List ROp := [⟨some 11,.copy false (.tmp 1),[],none⟩,
 ⟨some 12,.copy false (.tmp 0),[],none⟩,
 ⟨some 13,.copy false (.tmp 5),[],none⟩,
 ⟨some 14,.iad 6 (.tmp 12) (.tmp 13),[],none⟩,
 ⟨some 15,.load 6 true false (.tmp 14),[],none⟩,
 ⟨some 16,.call (.tmp 11) [.tmp 15],[],none⟩]
def F171r5 : List ROp := [⟨some 17,.copy true (.tmp 5),[],none⟩,
 ⟨some 4,.copy true (.tmp 17),[],none⟩]
def F171r6 : List ROp := [⟨some 18,.bin .add (.tmp 8) (.const (.int .i64 1)),[],none⟩,
 ⟨some 8,.copy false (.tmp 18),[],none⟩]
def F171r7 : List ROp := [⟨some 4,.copy true (.const (.int .i64 (-1))),[],none⟩]
-- function 135: slices.ContainsFunc[[]corollary/api.Rule,corollary/api.Rule]
def F135r0 : List ROp := [⟨some 4,.copy true (.const (.bool false)),[],none⟩]
def F135r1 : List ROp := [⟨some 5,.copy false (.tmp 0),[],none⟩,
 ⟨some 6,.copy false (.tmp 1),[],none⟩,
 ⟨some 7,.call (.func 171) [.tmp 5,.tmp 6],[],none⟩,
 ⟨some 8,.bin .geq (.tmp 7) (.const (.int .i64 0)),[],none⟩,
 ⟨some 4,.copy true (.tmp 8),[],none⟩]
-- function 138: corollary/tree.all[corollary/api.Expr]
def F138r0 : List ROp := [⟨some 3,.box 90 (.tmp 1),[],none⟩,
 ⟨some 4,.copy true (.const (.bool false)),[],none⟩]
def F138r1 : List ROp := [⟨some 5,.copy false (.tmp 0),[],none⟩,
 ⟨some 6,.mkf (Go.Fn.func 173) [.tmp 3],[],none⟩,
 ⟨some 7,.call (.func 55) [.tmp 5,.tmp 6],[],none⟩,
 ⟨some 8,.un .not (.tmp 7),[],none⟩,
 ⟨some 4,.copy true (.tmp 8),[],none⟩]
-- function 91: corollary/tree.all[corollary/api.Literal]
def F91r0 : List ROp := [⟨some 3,.box 145 (.tmp 1),[],none⟩,
 ⟨some 4,.copy true (.const (.bool false)),[],none⟩]
def F91r1 : List ROp := [⟨some 5,.copy false (.tmp 0),[],none⟩,
 ⟨some 6,.mkf (Go.Fn.func 143) [.tmp 3],[],none⟩,
 ⟨some 7,.call (.func 142) [.tmp 5,.tmp 6],[],none⟩,
 ⟨some 8,.un .not (.tmp 7),[],none⟩,
 ⟨some 4,.copy true (.tmp 8),[],none⟩]
-- function 89: corollary/tree.all[corollary/api.Never]
def F89r0 : List ROp := [⟨some 3,.box 146 (.tmp 1),[],none⟩,
 ⟨some 4,.copy true (.const (.bool false)),[],none⟩]
def F89r1 : List ROp := [⟨some 5,.copy false (.tmp 0),[],none⟩,
 ⟨some 6,.mkf (Go.Fn.func 141) [.tmp 3],[],none⟩,
 ⟨some 7,.call (.func 140) [.tmp 5,.tmp 6],[],none⟩,
 ⟨some 8,.un .not (.tmp 7),[],none⟩,
 ⟨some 4,.copy true (.tmp 8),[],none⟩]
-- function 80: corollary/tree.all[corollary/api.Import]
def F80r0 : List ROp := [⟨some 3,.box 127 (.tmp 1),[],none⟩,
 ⟨some 4,.copy true (.const (.bool false)),[],none⟩]
def F80r1 : List ROp := [⟨some 5,.copy false (.tmp 0),[],none⟩,
 ⟨some 6,.mkf (Go.Fn.func 123) [.tmp 3],[],none⟩,
 ⟨some 7,.call (.func 122) [.tmp 5,.tmp 6],[],none⟩,
 ⟨some 8,.un .not (.tmp 7),[],none⟩,
 ⟨some 4,.copy true (.tmp 8),[],none⟩]
-- function 82: corollary/tree.all[corollary/api.TypeDef]
def F82r0 : List ROp := [⟨some 3,.box 132 (.tmp 1),[],none⟩,
 ⟨some 4,.copy true (.const (.bool false)),[],none⟩]
def F82r1 : List ROp := [⟨some 5,.copy false (.tmp 0),[],none⟩,
 ⟨some 6,.mkf (Go.Fn.func 125) [.tmp 3],[],none⟩,
 ⟨some 7,.call (.func 124) [.tmp 5,.tmp 6],[],none⟩,
 ⟨some 8,.un .not (.tmp 7),[],none⟩,
 ⟨some 4,.copy true (.tmp 8),[],none⟩]
-- function 84: corollary/tree.all[corollary/api.RelDef]
def F84r0 : List ROp := [⟨some 3,.box 138 (.tmp 1),[],none⟩,
 ⟨some 4,.copy true (.const (.bool false)),[],none⟩]
def F84r1 : List ROp := [⟨some 5,.copy false (.tmp 0),[],none⟩,
 ⟨some 6,.mkf (Go.Fn.func 131) [.tmp 3],[],none⟩,
 ⟨some 7,.call (.func 130) [.tmp 5,.tmp 6],[],none⟩,
 ⟨some 8,.un .not (.tmp 7),[],none⟩,
 ⟨some 4,.copy true (.tmp 8),[],none⟩]
-- function 87: corollary/tree.all[corollary/api.Rule]
def F87r0 : List ROp := [⟨some 3,.box 142 (.tmp 1),[],none⟩,
 ⟨some 4,.copy true (.const (.bool false)),[],none⟩]
def F87r1 : List ROp := [⟨some 5,.copy false (.tmp 0),[],none⟩,
 ⟨some 6,.mkf (Go.Fn.func 136) [.tmp 3],[],none⟩,
 ⟨some 7,.call (.func 135) [.tmp 5,.tmp 6],[],none⟩,
 ⟨some 8,.un .not (.tmp 7),[],none⟩,
 ⟨some 4,.copy true (.tmp 8),[],none⟩]
-- function 173: corollary/tree.all[corollary/api.Expr]$1
def F173r0 : List ROp := [⟨some 2,.box 58 (.tmp 0),[],none⟩,
 ⟨some 3,.copy true (.const (.bool false)),[],none⟩]
def F173r1 : List ROp := [⟨some 4,.load 1 false false (.tmp 1),[],none⟩,
 ⟨some 5,.load 9 true false (.tmp 2),[],none⟩,
 ⟨some 6,.call (.tmp 4) [.tmp 5],[],none⟩,
 ⟨some 7,.un .not (.tmp 6),[],none⟩,
 ⟨some 3,.copy true (.tmp 7),[],none⟩]
-- function 143: corollary/tree.all[corollary/api.Literal]$1
def F143r0 : List ROp := [⟨some 2,.box 99 (.tmp 0),[],none⟩,
 ⟨some 3,.copy true (.const (.bool false)),[],none⟩]
def F143r1 : List ROp := [⟨some 4,.load 1 false false (.tmp 1),[],none⟩,
 ⟨some 5,.load 5 true false (.tmp 2),[],none⟩,
 ⟨some 6,.call (.tmp 4) [.tmp 5],[],none⟩,
 ⟨some 7,.un .not (.tmp 6),[],none⟩,
 ⟨some 3,.copy true (.tmp 7),[],none⟩]
-- function 141: corollary/tree.all[corollary/api.Never]$1
def F141r0 : List ROp := [⟨some 2,.box 102 (.tmp 0),[],none⟩,
 ⟨some 3,.copy true (.const (.bool false)),[],none⟩]
def F141r1 : List ROp := [⟨some 4,.load 1 false false (.tmp 1),[],none⟩,
 ⟨some 5,.load 4 true false (.tmp 2),[],none⟩,
 ⟨some 6,.call (.tmp 4) [.tmp 5],[],none⟩,
 ⟨some 7,.un .not (.tmp 6),[],none⟩,
 ⟨some 3,.copy true (.tmp 7),[],none⟩]
-- function 98: corollary/tree.deepest[corollary/api.Expr]
def F98r0 : List ROp := [⟨some 4,.copy true (.const (.int .i64 0)),[],none⟩]
def F98r1 : List ROp := [⟨some 5,.copy true (.const (.int .i64 0)),[],none⟩]
def F98r2 : List ROp := [⟨some 8,.copy false (.tmp 0),[],none⟩,
 ⟨some 9,.len 0 (.tmp 8),[],none⟩,
 ⟨some 10,.copy false (.const (.int .i64 0)),[],none⟩]
def F98r3 : List ROp := [⟨some 11,.bin .lss (.tmp 10) (.tmp 9),[],none⟩]
def F98r4 : List ROp := [⟨some 12,.iad 9 (.tmp 8) (.tmp 10),[],none⟩,
 ⟨some 13,.load 9 true false (.tmp 12),[],none⟩,
 ⟨some 7,.alloc 58 [Value.int .u8 0,Value.int .i64 0,Value.int .i64 0,Value.string ByteArray.empty,Value.int .u8 0,Value.int .i64 0,Value.string ByteArray.empty,Value.slice none 0 0,Value.slice none 0 0],[],none⟩,
 ⟨none,.store 9 true (.tmp 7) (.tmp 13),[],none⟩]
def F98r5 : List ROp := [⟨some 14,.copy false (.tmp 5),[],none⟩,
 ⟨some 15,.copy false (.tmp 1),[],none⟩,
 ⟨some 16,.load 9 true false (.tmp 7),[],none⟩,
 ⟨some 17,.call (.tmp 15) [.tmp 16],[],none⟩,
 ⟨some 18,.mm true (.tmp 14) (.tmp 17),[],none⟩,
 ⟨some 5,.copy true (.tmp 18),[],none⟩]
def F98r6 : List ROp := [⟨some 19,.bin .add (.tmp 10) (.const (.int .i64 1)),[],none⟩,
 ⟨some 10,.copy false (.tmp 19),[],none⟩]
def F98r7 : List ROp := [⟨some 20,.copy true (.tmp 5),[],none⟩,
 ⟨some 4,.copy true (.tmp 20),[],none⟩]
-- function 116: corollary/tree.deepest[corollary/api.Literal]
def F116r0 : List ROp := [⟨some 4,.copy true (.const (.int .i64 0)),[],none⟩]
def F116r1 : List ROp := [⟨some 5,.copy true (.const (.int .i64 0)),[],none⟩]
def F116r2 : List ROp := [⟨some 8,.copy false (.tmp 0),[],none⟩,
 ⟨some 9,.len 0 (.tmp 8),[],none⟩,
 ⟨some 10,.copy false (.const (.int .i64 0)),[],none⟩]
def F116r3 : List ROp := [⟨some 11,.bin .lss (.tmp 10) (.tmp 9),[],none⟩]
def F116r4 : List ROp := [⟨some 12,.iad 5 (.tmp 8) (.tmp 10),[],none⟩,
 ⟨some 13,.load 5 true false (.tmp 12),[],none⟩,
 ⟨some 7,.alloc 99 [Value.int .u8 0,Value.int .i64 0,Value.int .i64 0,Value.string ByteArray.empty,Value.slice none 0 0],[],none⟩,
 ⟨none,.store 5 true (.tmp 7) (.tmp 13),[],none⟩]
def F116r5 : List ROp := [⟨some 14,.copy false (.tmp 5),[],none⟩,
 ⟨some 15,.copy false (.tmp 1),[],none⟩,
 ⟨some 16,.load 5 true false (.tmp 7),[],none⟩,
 ⟨some 17,.call (.tmp 15) [.tmp 16],[],none⟩,
 ⟨some 18,.mm true (.tmp 14) (.tmp 17),[],none⟩,
 ⟨some 5,.copy true (.tmp 18),[],none⟩]
def F116r6 : List ROp := [⟨some 19,.bin .add (.tmp 10) (.const (.int .i64 1)),[],none⟩,
 ⟨some 10,.copy false (.tmp 19),[],none⟩]
def F116r7 : List ROp := [⟨some 20,.copy true (.tmp 5),[],none⟩,
 ⟨some 4,.copy true (.tmp 20),[],none⟩]
-- function 118: corollary/tree.deepest[corollary/api.Never]
def F118r0 : List ROp := [⟨some 4,.copy true (.const (.int .i64 0)),[],none⟩]
def F118r1 : List ROp := [⟨some 5,.copy true (.const (.int .i64 0)),[],none⟩]
def F118r2 : List ROp := [⟨some 8,.copy false (.tmp 0),[],none⟩,
 ⟨some 9,.len 0 (.tmp 8),[],none⟩,
 ⟨some 10,.copy false (.const (.int .i64 0)),[],none⟩]
def F118r3 : List ROp := [⟨some 11,.bin .lss (.tmp 10) (.tmp 9),[],none⟩]
def F118r4 : List ROp := [⟨some 12,.iad 4 (.tmp 8) (.tmp 10),[],none⟩,
 ⟨some 13,.load 4 true false (.tmp 12),[],none⟩,
 ⟨some 7,.alloc 102 [Value.int .i64 0,Value.int .i64 0,Value.string ByteArray.empty,Value.slice none 0 0],[],none⟩,
 ⟨none,.store 4 true (.tmp 7) (.tmp 13),[],none⟩]
def F118r5 : List ROp := [⟨some 14,.copy false (.tmp 5),[],none⟩,
 ⟨some 15,.copy false (.tmp 1),[],none⟩,
 ⟨some 16,.load 4 true false (.tmp 7),[],none⟩,
 ⟨some 17,.call (.tmp 15) [.tmp 16],[],none⟩,
 ⟨some 18,.mm true (.tmp 14) (.tmp 17),[],none⟩,
 ⟨some 5,.copy true (.tmp 18),[],none⟩]
def F118r6 : List ROp := [⟨some 19,.bin .add (.tmp 10) (.const (.int .i64 1)),[],none⟩,
 ⟨some 10,.copy false (.tmp 19),[],none⟩]
def F118r7 : List ROp := [⟨some 20,.copy true (.tmp 5),[],none⟩,
 ⟨some 4,.copy true (.tmp 20),[],none⟩]
-- function 106: corollary/tree.deepest[corollary/api.TypeDef]
def F106r0 : List ROp := [⟨some 4,.copy true (.const (.int .i64 0)),[],none⟩]
def F106r1 : List ROp := [⟨some 5,.copy true (.const (.int .i64 0)),[],none⟩]
def F106r2 : List ROp := [⟨some 8,.copy false (.tmp 0),[],none⟩,
 ⟨some 9,.len 0 (.tmp 8),[],none⟩,
 ⟨some 10,.copy false (.const (.int .i64 0)),[],none⟩]
def F106r3 : List ROp := [⟨some 11,.bin .lss (.tmp 10) (.tmp 9),[],none⟩]
def F106r4 : List ROp := [⟨some 12,.iad 6 (.tmp 8) (.tmp 10),[],none⟩,
 ⟨some 13,.load 6 true false (.tmp 12),[],none⟩,
 ⟨some 7,.alloc 131 [Value.int .i64 0,Value.int .i64 0,Value.bool false,Value.string ByteArray.empty,Value.slice none 0 0,Value.slice none 0 0],[],none⟩,
 ⟨none,.store 6 true (.tmp 7) (.tmp 13),[],none⟩]
def F106r5 : List ROp := [⟨some 14,.copy false (.tmp 5),[],none⟩,
 ⟨some 15,.copy false (.tmp 1),[],none⟩,
 ⟨some 16,.load 6 true false (.tmp 7),[],none⟩,
 ⟨some 17,.call (.tmp 15) [.tmp 16],[],none⟩,
 ⟨some 18,.mm true (.tmp 14) (.tmp 17),[],none⟩,
 ⟨some 5,.copy true (.tmp 18),[],none⟩]
def F106r6 : List ROp := [⟨some 19,.bin .add (.tmp 10) (.const (.int .i64 1)),[],none⟩,
 ⟨some 10,.copy false (.tmp 19),[],none⟩]
def F106r7 : List ROp := [⟨some 20,.copy true (.tmp 5),[],none⟩,
 ⟨some 4,.copy true (.tmp 20),[],none⟩]
-- function 112: corollary/tree.deepest[corollary/api.RelDef]
def F112r0 : List ROp := [⟨some 4,.copy true (.const (.int .i64 0)),[],none⟩]
def F112r1 : List ROp := [⟨some 5,.copy true (.const (.int .i64 0)),[],none⟩]
def F112r2 : List ROp := [⟨some 8,.copy false (.tmp 0),[],none⟩,
 ⟨some 9,.len 0 (.tmp 8),[],none⟩,
 ⟨some 10,.copy false (.const (.int .i64 0)),[],none⟩]
def F112r3 : List ROp := [⟨some 11,.bin .lss (.tmp 10) (.tmp 9),[],none⟩]
def F112r4 : List ROp := [⟨some 12,.iad 6 (.tmp 8) (.tmp 10),[],none⟩,
 ⟨some 13,.load 6 true false (.tmp 12),[],none⟩,
 ⟨some 7,.alloc 136 [Value.int .i64 0,Value.int .i64 0,Value.bool false,Value.bool false,Value.string ByteArray.empty,Value.slice none 0 0],[],none⟩,
 ⟨none,.store 6 true (.tmp 7) (.tmp 13),[],none⟩]
def F112r5 : List ROp := [⟨some 14,.copy false (.tmp 5),[],none⟩,
 ⟨some 15,.copy false (.tmp 1),[],none⟩,
 ⟨some 16,.load 6 true false (.tmp 7),[],none⟩,
 ⟨some 17,.call (.tmp 15) [.tmp 16],[],none⟩,
 ⟨some 18,.mm true (.tmp 14) (.tmp 17),[],none⟩,
 ⟨some 5,.copy true (.tmp 18),[],none⟩]
def F112r6 : List ROp := [⟨some 19,.bin .add (.tmp 10) (.const (.int .i64 1)),[],none⟩,
 ⟨some 10,.copy false (.tmp 19),[],none⟩]
def F112r7 : List ROp := [⟨some 20,.copy true (.tmp 5),[],none⟩,
 ⟨some 4,.copy true (.tmp 20),[],none⟩]
-- function 114: corollary/tree.deepest[corollary/api.Rule]
def F114r0 : List ROp := [⟨some 4,.copy true (.const (.int .i64 0)),[],none⟩]
def F114r1 : List ROp := [⟨some 5,.copy true (.const (.int .i64 0)),[],none⟩]
def F114r2 : List ROp := [⟨some 8,.copy false (.tmp 0),[],none⟩,
 ⟨some 9,.len 0 (.tmp 8),[],none⟩,
 ⟨some 10,.copy false (.const (.int .i64 0)),[],none⟩]
def F114r3 : List ROp := [⟨some 11,.bin .lss (.tmp 10) (.tmp 9),[],none⟩]
def F114r4 : List ROp := [⟨some 12,.iad 6 (.tmp 8) (.tmp 10),[],none⟩,
 ⟨some 13,.load 6 true false (.tmp 12),[],none⟩,
 ⟨some 7,.alloc 141 [Value.int .i64 0,Value.int .i64 0,Value.string ByteArray.empty,Value.slice none 0 0,Value.slice none 0 0,Value.slice none 0 0],[],none⟩,
 ⟨none,.store 6 true (.tmp 7) (.tmp 13),[],none⟩]
def F114r5 : List ROp := [⟨some 14,.copy false (.tmp 5),[],none⟩,
 ⟨some 15,.copy false (.tmp 1),[],none⟩,
 ⟨some 16,.load 6 true false (.tmp 7),[],none⟩,
 ⟨some 17,.call (.tmp 15) [.tmp 16],[],none⟩,
 ⟨some 18,.mm true (.tmp 14) (.tmp 17),[],none⟩,
 ⟨some 5,.copy true (.tmp 18),[],none⟩]
def F114r6 : List ROp := [⟨some 19,.bin .add (.tmp 10) (.const (.int .i64 1)),[],none⟩,
 ⟨some 10,.copy false (.tmp 19),[],none⟩]
def F114r7 : List ROp := [⟨some 20,.copy true (.tmp 5),[],none⟩,
 ⟨some 4,.copy true (.tmp 20),[],none⟩]
theorem any_not {α : Type} (p : α → Bool) (l : List α) : (l.any fun e => !p e) = !l.all p := by
 induction l with
 | nil => rfl
 | cons a l ih => simp only [List.any_cons, List.all_cons, ih, Bool.not_and]
def maxD (d : ExprD → Nat) : List ExprD → Nat
 | [] => 0
 | e :: l => max (d e) (maxD d l)
theorem maxD_append (d : ExprD → Nat) (a b : List ExprD) : maxD d (a ++ b) = max (maxD d a) (maxD d b) := by
 induction a with
 | nil => simp [maxD]
 | cons x a ih => simp only [List.cons_append, maxD, ih]; omega
theorem maxD_take (d : ExprD → Nat) (l : List ExprD) (k : Nat) (h : k < l.length) : maxD d (l.take (k + 1)) = max (maxD d (l.take k)) (d l[k]) := by
 rw [List.take_succ_eq_append_getElem h, maxD_append]; simp [maxD]
def encPR (l : List PlanD) : AV := .rd 6 (l.map encP)
def encS (s : ShapeD) : List AV := [.rd 1 (texts s.names), bval s.bare, ival s.width]
def encSR (l : List ShapeD) : AV := .rd 3 (l.map encS)
def shapeX (s : ShapeD) : AV := .agg [.rd 1 (texts s.names), bval s.bare, ival s.width]
def tRel : ByteArray := ⟨#[114]⟩
def tNev : ByteArray := ⟨#[110]⟩
def encL (e : ExprD) : List AV := [uval 1, ival 0, ival 0, sval tRel, .rd 9 [encE e]]
def encLR (l : List ExprD) : AV := .rd 5 (l.map encL)
def litX (e : ExprD) : AV := .agg [uval 1, ival 0, ival 0, sval tRel, .rd 9 [encE e]]
def encN (e : ExprD) : List AV := [ival 0, ival 0, sval tNev, .rd 5 [encL e]]
def encNR (l : List ExprD) : AV := .rd 4 (l.map encN)
def nevX (e : ExprD) : AV := .agg [ival 0, ival 0, sval tNev, .rd 5 [encL e]]
def nilA : AV := .val (.slice none 0 0)
attribute [local simp] encS encSR shapeX encL encLR litX encN encNR nevX encTR encT texts nilA
theorem IndexFuncS_ok (l : List ShapeD) (hl : l.length ≤ 4194304) (f : FuncId) (caps : List AV) (hc : norefL caps = true) (p : ShapeD → Bool) (hp : ∀ x ∈ l, Con Tryz.prog f (shapeX x :: caps) (bval (p x))) :
  Con Tryz.prog 54 [encSR l, .clo (.func f) caps] (ival (fid p l 0)) := by
 have hw : withinL [] caps = true := withinL_of_noref [] caps hc
 refine Con.of_code Tryz.func54 (by kernel_rfl) rfl (by simp [Tryz.ntmps54]) fun C hC hM => ?_
 refine AWp.seq ?_
 refine AWp.regK [0,1] [true] F54r0 [] (by kernel_rfl) (by rw [hC]; rfl) fun K hK => ?_
 simp (maxSteps := 2000000) [F54r0]
 refine hK _ ?_
 refine AWp.seq ?_
 refine AWp.seq ?_
 refine AWp.regK [0,1,7,8] [] F54r1 [] (by kernel_rfl) (by rw [hC]; rfl) fun K hK => ?_
 simp (maxSteps := 2000000) [F54r1]
 refine hK _ ?_
 refine AWp.block ?_
 refine AWp.loopG (fun k : Nat => { tm := [(0, encSR l), (1, .clo (.func f) caps), (7, ival l.length), (8, ival k)], hp := [] }) (fun k => k ≤ l.length ∧ fid p l 0 = fid p (l.drop k) k) (fun k => l.length - k) 0 ⟨by omega, by simp⟩ (by simp [hw]) (fun k hk => ?_)
 obtain ⟨hk1, hk2⟩ := hk
 refine AWp.seq ?_
 refine AWp.regK [0,1,7,8,9] [] F54r2 [] (by kernel_rfl) (by rw [hC]; rfl) fun K hK => ?_
 simp (maxSteps := 2000000) [F54r2]
 refine hK _ ?_
 refine AWp.seq ?_
 refine AWp.cond _ (by rfl) (fun hlt => ?_) (fun hge => ?_)
 ·skip
  have hlt : k < l.length := by simpa using hlt
  have hd := fid_drop p l k hlt
  have hpk := hp l[k] (List.getElem_mem hlt)
  refine AWp.skip ?_
  refine AWp.seq ?_
  refine AWp.block ?_
  refine AWp.seq ?_
  refine AWp.regK [0,1,5,7,8] [true,true] F54r3 [] (by kernel_rfl) (by rw [hC]; rfl) fun K hK => ?_
  simp (maxSteps := 2000000) [F54r3, hlt]
  refine hK _ ?_
  refine AWp.seq ?_
  refine AWp.regK [0,1,5,7,8,16] [] F54r4 [{ r := bval (p l[k]) }] (by kernel_rfl) (by rw [hC]; rfl) fun K hK => ?_
  simp (maxSteps := 2000000) [F54r4, hlt]
  (repeat first | refine ⟨by first | kernel_rfl | (intros; omega) | assumption, ?_⟩ | refine ⟨by intros; exact callOK (by simpa using hc) hpk, ?_⟩); refine hK _ ?_
  refine AWp.cond _ (by rfl) (fun hq => ?_) (fun hq => ?_)
  ·skip
   refine AWp.seq ?_
   refine AWp.regK [4] [true,true] F54r5 [] (by kernel_rfl) (by rw [hC]; rfl) fun K hK => ?_
   simp (maxSteps := 2000000) [F54r5]
   refine hK _ ?_
   repeat refine AWp.seq ?_
   refine AWp.ret ⟨.inr rfl, _, by simp [Tryz.results54] <;> rfl, ?_⟩
   refine .clos ?_ rfl
   rw [hk2, hd, if_pos hq]; rfl
  refine AWp.skip ?_
  refine AWp.regK [0,1,7,8] [] F54r6 [] (by kernel_rfl) (by rw [hC]; rfl) fun K hK => ?_
  simp (maxSteps := 2000000) [F54r6]
  (repeat refine ⟨by first | omega | (intros; omega) | assumption, ?_⟩); refine hK _ ?_
  refine ⟨k + 1, ⟨by omega, by rw [hk2, hd, if_neg (by simp [hq])]⟩, by omega, ?_⟩
  simp [hw, wrap_nat k (by omega)]
 have hge : ¬ k < l.length := by simpa using hge
 refine AWp.exit ?_
 refine AWp.seq ?_
 refine AWp.regK [4] [true] F54r7 [] (by kernel_rfl) (by rw [hC]; rfl) fun K hK => ?_
 simp (maxSteps := 2000000) [F54r7]
 refine hK _ ?_
 repeat refine AWp.seq ?_
 refine AWp.ret ⟨.inr rfl, _, by simp [Tryz.results54] <;> rfl, ?_⟩
 refine .clos ?_ rfl
 rw [hk2, List.drop_eq_nil_of_le (by omega)]; rfl
theorem ContainsFuncS_ok (l : List ShapeD) (hl : l.length ≤ 4194304) (f : FuncId) (caps : List AV) (hc : norefL caps = true) (p : ShapeD → Bool) (hp : ∀ x ∈ l, Con Tryz.prog f (shapeX x :: caps) (bval (p x))) :
  Con Tryz.prog 41 [encSR l, .clo (.func f) caps] (bval (l.any p)) := by
 have h1 := IndexFuncS_ok l hl f caps hc p hp
 have h2 := fid_any p l 0
 refine Con.of_code Tryz.func41 (by kernel_rfl) rfl (by simp [Tryz.ntmps41]) fun C hC hM => ?_
 refine AWp.seq ?_
 refine AWp.regK [0,1] [true] F41r0 [] (by kernel_rfl) (by rw [hC]; rfl) fun K hK => ?_
 simp (maxSteps := 2000000) [F41r0]
 refine hK _ ?_
 refine AWp.seq ?_
 refine AWp.regK [4] [false,false,false,false,true] F41r1 [{ r := ival (fid p l 0) }] (by kernel_rfl) (by rw [hC]; rfl) fun K hK => ?_
 simp (maxSteps := 2000000) [F41r1]
 (repeat first | refine ⟨by first | kernel_rfl | (intros; omega) | assumption, ?_⟩ | refine ⟨by intros; exact callOK (by simpa using hc) h1, ?_⟩); refine hK _ ?_
 repeat refine AWp.seq ?_
 refine AWp.ret ⟨.inr rfl, _, by simp [Tryz.results41] <;> rfl, ?_⟩
 refine .clos ?_ rfl
 rw [← h2]; simp
theorem IndexFuncT_ok (l : List ByteArray) (hl : l.length ≤ 4194304) (f : FuncId) (caps : List AV) (hc : norefL caps = true) (p : ByteArray → Bool) (hp : ∀ x ∈ l, Con Tryz.prog f (sval x :: caps) (bval (p x))) :
  Con Tryz.prog 45 [encTR l, .clo (.func f) caps] (ival (fid p l 0)) := by
 have hw : withinL [] caps = true := withinL_of_noref [] caps hc
 refine Con.of_code Tryz.func45 (by kernel_rfl) rfl (by simp [Tryz.ntmps45]) fun C hC hM => ?_
 refine AWp.seq ?_
 refine AWp.regK [0,1] [true] F45r0 [] (by kernel_rfl) (by rw [hC]; rfl) fun K hK => ?_
 simp (maxSteps := 2000000) [F45r0]
 refine hK _ ?_
 refine AWp.seq ?_
 refine AWp.seq ?_
 refine AWp.regK [0,1,7,8] [] F45r1 [] (by kernel_rfl) (by rw [hC]; rfl) fun K hK => ?_
 simp (maxSteps := 2000000) [F45r1]
 refine hK _ ?_
 refine AWp.block ?_
 refine AWp.loopG (fun k : Nat => { tm := [(0, encTR l), (1, .clo (.func f) caps), (7, ival l.length), (8, ival k)], hp := [] }) (fun k => k ≤ l.length ∧ fid p l 0 = fid p (l.drop k) k) (fun k => l.length - k) 0 ⟨by omega, by simp⟩ (by simp [hw]) (fun k hk => ?_)
 obtain ⟨hk1, hk2⟩ := hk
 refine AWp.seq ?_
 refine AWp.regK [0,1,7,8,9] [] F45r2 [] (by kernel_rfl) (by rw [hC]; rfl) fun K hK => ?_
 simp (maxSteps := 2000000) [F45r2]
 refine hK _ ?_
 refine AWp.seq ?_
 refine AWp.cond _ (by rfl) (fun hlt => ?_) (fun hge => ?_)
 ·skip
  have hlt : k < l.length := by simpa using hlt
  have hd := fid_drop p l k hlt
  have hpk := hp l[k] (List.getElem_mem hlt)
  refine AWp.skip ?_
  refine AWp.seq ?_
  refine AWp.block ?_
  refine AWp.seq ?_
  refine AWp.regK [0,1,5,7,8] [true,true] F45r3 [] (by kernel_rfl) (by rw [hC]; rfl) fun K hK => ?_
  simp (maxSteps := 2000000) [F45r3, hlt]
  refine hK _ ?_
  refine AWp.seq ?_
  refine AWp.regK [0,1,5,7,8,16] [] F45r4 [{ r := bval (p l[k]) }] (by kernel_rfl) (by rw [hC]; rfl) fun K hK => ?_
  simp (maxSteps := 2000000) [F45r4, hlt]
  (repeat first | refine ⟨by first | kernel_rfl | (intros; omega) | assumption, ?_⟩ | refine ⟨by intros; exact callOK (by simpa using hc) hpk, ?_⟩); refine hK _ ?_
  refine AWp.cond _ (by rfl) (fun hq => ?_) (fun hq => ?_)
  ·skip
   refine AWp.seq ?_
   refine AWp.regK [4] [true,true] F45r5 [] (by kernel_rfl) (by rw [hC]; rfl) fun K hK => ?_
   simp (maxSteps := 2000000) [F45r5]
   refine hK _ ?_
   repeat refine AWp.seq ?_
   refine AWp.ret ⟨.inr rfl, _, by simp [Tryz.results45] <;> rfl, ?_⟩
   refine .clos ?_ rfl
   rw [hk2, hd, if_pos hq]; rfl
  refine AWp.skip ?_
  refine AWp.regK [0,1,7,8] [] F45r6 [] (by kernel_rfl) (by rw [hC]; rfl) fun K hK => ?_
  simp (maxSteps := 2000000) [F45r6]
  (repeat refine ⟨by first | omega | (intros; omega) | assumption, ?_⟩); refine hK _ ?_
  refine ⟨k + 1, ⟨by omega, by rw [hk2, hd, if_neg (by simp [hq])]⟩, by omega, ?_⟩
  simp [hw, wrap_nat k (by omega)]
 have hge : ¬ k < l.length := by simpa using hge
 refine AWp.exit ?_
 refine AWp.seq ?_
 refine AWp.regK [4] [true] F45r7 [] (by kernel_rfl) (by rw [hC]; rfl) fun K hK => ?_
 simp (maxSteps := 2000000) [F45r7]
 refine hK _ ?_
 repeat refine AWp.seq ?_
 refine AWp.ret ⟨.inr rfl, _, by simp [Tryz.results45] <;> rfl, ?_⟩
 refine .clos ?_ rfl
 rw [hk2, List.drop_eq_nil_of_le (by omega)]; rfl
theorem ContainsFuncT_ok (l : List ByteArray) (hl : l.length ≤ 4194304) (f : FuncId) (caps : List AV) (hc : norefL caps = true) (p : ByteArray → Bool) (hp : ∀ x ∈ l, Con Tryz.prog f (sval x :: caps) (bval (p x))) :
  Con Tryz.prog 30 [encTR l, .clo (.func f) caps] (bval (l.any p)) := by
 have h1 := IndexFuncT_ok l hl f caps hc p hp
 have h2 := fid_any p l 0
 refine Con.of_code Tryz.func30 (by kernel_rfl) rfl (by simp [Tryz.ntmps30]) fun C hC hM => ?_
 refine AWp.seq ?_
 refine AWp.regK [0,1] [true] F30r0 [] (by kernel_rfl) (by rw [hC]; rfl) fun K hK => ?_
 simp (maxSteps := 2000000) [F30r0]
 refine hK _ ?_
 refine AWp.seq ?_
 refine AWp.regK [4] [false,false,false,false,true] F30r1 [{ r := ival (fid p l 0) }] (by kernel_rfl) (by rw [hC]; rfl) fun K hK => ?_
 simp (maxSteps := 2000000) [F30r1]
 (repeat first | refine ⟨by first | kernel_rfl | (intros; omega) | assumption, ?_⟩ | refine ⟨by intros; exact callOK (by simpa using hc) h1, ?_⟩); refine hK _ ?_
 repeat refine AWp.seq ?_
 refine AWp.ret ⟨.inr rfl, _, by simp [Tryz.results30] <;> rfl, ?_⟩
 refine .clos ?_ rfl
 rw [← h2]; simp
theorem IndexFuncL_ok (l : List ExprD) (hl : l.length ≤ 4194304) (f : FuncId) (caps : List AV) (hc : norefL caps = true) (p : ExprD → Bool) (hp : ∀ x ∈ l, Con Tryz.prog f (litX x :: caps) (bval (p x))) :
  Con Tryz.prog 175 [encLR l, .clo (.func f) caps] (ival (fid p l 0)) := by
 have hw : withinL [] caps = true := withinL_of_noref [] caps hc
 refine Con.of_code Tryz.func175 (by kernel_rfl) rfl (by simp [Tryz.ntmps175]) fun C hC hM => ?_
 refine AWp.seq ?_
 refine AWp.regK [0,1] [true] F175r0 [] (by kernel_rfl) (by rw [hC]; rfl) fun K hK => ?_
 simp (maxSteps := 2000000) [F175r0]
 refine hK _ ?_
 refine AWp.seq ?_
 refine AWp.seq ?_
 refine AWp.regK [0,1,7,8] [] F175r1 [] (by kernel_rfl) (by rw [hC]; rfl) fun K hK => ?_
 simp (maxSteps := 2000000) [F175r1]
 refine hK _ ?_
 refine AWp.block ?_
 refine AWp.loopG (fun k : Nat => { tm := [(0, encLR l), (1, .clo (.func f) caps), (7, ival l.length), (8, ival k)], hp := [] }) (fun k => k ≤ l.length ∧ fid p l 0 = fid p (l.drop k) k) (fun k => l.length - k) 0 ⟨by omega, by simp⟩ (by simp [hw]) (fun k hk => ?_)
 obtain ⟨hk1, hk2⟩ := hk
 refine AWp.seq ?_
 refine AWp.regK [0,1,7,8,9] [] F175r2 [] (by kernel_rfl) (by rw [hC]; rfl) fun K hK => ?_
 simp (maxSteps := 2000000) [F175r2]
 refine hK _ ?_
 refine AWp.seq ?_
 refine AWp.cond _ (by rfl) (fun hlt => ?_) (fun hge => ?_)
 ·skip
  have hlt : k < l.length := by simpa using hlt
  have hd := fid_drop p l k hlt
  have hpk := hp l[k] (List.getElem_mem hlt)
  refine AWp.skip ?_
  refine AWp.seq ?_
  refine AWp.block ?_
  refine AWp.seq ?_
  refine AWp.regK [0,1,5,7,8] [true,true] F175r3 [] (by kernel_rfl) (by rw [hC]; rfl) fun K hK => ?_
  simp (maxSteps := 2000000) [F175r3, hlt]
  refine hK _ ?_
  refine AWp.seq ?_
  refine AWp.regK [0,1,5,7,8,16] [] F175r4 [{ r := bval (p l[k]) }] (by kernel_rfl) (by rw [hC]; rfl) fun K hK => ?_
  simp (maxSteps := 2000000) [F175r4, hlt]
  (repeat first | refine ⟨by first | kernel_rfl | (intros; omega) | assumption, ?_⟩ | refine ⟨by intros; exact callOK (by simpa using hc) hpk, ?_⟩); refine hK _ ?_
  refine AWp.cond _ (by rfl) (fun hq => ?_) (fun hq => ?_)
  ·skip
   refine AWp.seq ?_
   refine AWp.regK [4] [true,true] F175r5 [] (by kernel_rfl) (by rw [hC]; rfl) fun K hK => ?_
   simp (maxSteps := 2000000) [F175r5]
   refine hK _ ?_
   repeat refine AWp.seq ?_
   refine AWp.ret ⟨.inr rfl, _, by simp [Tryz.results175] <;> rfl, ?_⟩
   refine .clos ?_ rfl
   rw [hk2, hd, if_pos hq]; rfl
  refine AWp.skip ?_
  refine AWp.regK [0,1,7,8] [] F175r6 [] (by kernel_rfl) (by rw [hC]; rfl) fun K hK => ?_
  simp (maxSteps := 2000000) [F175r6]
  (repeat refine ⟨by first | omega | (intros; omega) | assumption, ?_⟩); refine hK _ ?_
  refine ⟨k + 1, ⟨by omega, by rw [hk2, hd, if_neg (by simp [hq])]⟩, by omega, ?_⟩
  simp [hw, wrap_nat k (by omega)]
 have hge : ¬ k < l.length := by simpa using hge
 refine AWp.exit ?_
 refine AWp.seq ?_
 refine AWp.regK [4] [true] F175r7 [] (by kernel_rfl) (by rw [hC]; rfl) fun K hK => ?_
 simp (maxSteps := 2000000) [F175r7]
 refine hK _ ?_
 repeat refine AWp.seq ?_
 refine AWp.ret ⟨.inr rfl, _, by simp [Tryz.results175] <;> rfl, ?_⟩
 refine .clos ?_ rfl
 rw [hk2, List.drop_eq_nil_of_le (by omega)]; rfl
theorem ContainsFuncL_ok (l : List ExprD) (hl : l.length ≤ 4194304) (f : FuncId) (caps : List AV) (hc : norefL caps = true) (p : ExprD → Bool) (hp : ∀ x ∈ l, Con Tryz.prog f (litX x :: caps) (bval (p x))) :
  Con Tryz.prog 142 [encLR l, .clo (.func f) caps] (bval (l.any p)) := by
 have h1 := IndexFuncL_ok l hl f caps hc p hp
 have h2 := fid_any p l 0
 refine Con.of_code Tryz.func142 (by kernel_rfl) rfl (by simp [Tryz.ntmps142]) fun C hC hM => ?_
 refine AWp.seq ?_
 refine AWp.regK [0,1] [true] F142r0 [] (by kernel_rfl) (by rw [hC]; rfl) fun K hK => ?_
 simp (maxSteps := 2000000) [F142r0]
 refine hK _ ?_
 refine AWp.seq ?_
 refine AWp.regK [4] [false,false,false,false,true] F142r1 [{ r := ival (fid p l 0) }] (by kernel_rfl) (by rw [hC]; rfl) fun K hK => ?_
 simp (maxSteps := 2000000) [F142r1]
 (repeat first | refine ⟨by first | kernel_rfl | (intros; omega) | assumption, ?_⟩ | refine ⟨by intros; exact callOK (by simpa using hc) h1, ?_⟩); refine hK _ ?_
 repeat refine AWp.seq ?_
 refine AWp.ret ⟨.inr rfl, _, by simp [Tryz.results142] <;> rfl, ?_⟩
 refine .clos ?_ rfl
 rw [← h2]; simp
theorem IndexFuncN_ok (l : List ExprD) (hl : l.length ≤ 4194304) (f : FuncId) (caps : List AV) (hc : norefL caps = true) (p : ExprD → Bool) (hp : ∀ x ∈ l, Con Tryz.prog f (nevX x :: caps) (bval (p x))) :
  Con Tryz.prog 174 [encNR l, .clo (.func f) caps] (ival (fid p l 0)) := by
 have hw : withinL [] caps = true := withinL_of_noref [] caps hc
 refine Con.of_code Tryz.func174 (by kernel_rfl) rfl (by simp [Tryz.ntmps174]) fun C hC hM => ?_
 refine AWp.seq ?_
 refine AWp.regK [0,1] [true] F174r0 [] (by kernel_rfl) (by rw [hC]; rfl) fun K hK => ?_
 simp (maxSteps := 2000000) [F174r0]
 refine hK _ ?_
 refine AWp.seq ?_
 refine AWp.seq ?_
 refine AWp.regK [0,1,7,8] [] F174r1 [] (by kernel_rfl) (by rw [hC]; rfl) fun K hK => ?_
 simp (maxSteps := 2000000) [F174r1]
 refine hK _ ?_
 refine AWp.block ?_
 refine AWp.loopG (fun k : Nat => { tm := [(0, encNR l), (1, .clo (.func f) caps), (7, ival l.length), (8, ival k)], hp := [] }) (fun k => k ≤ l.length ∧ fid p l 0 = fid p (l.drop k) k) (fun k => l.length - k) 0 ⟨by omega, by simp⟩ (by simp [hw]) (fun k hk => ?_)
 obtain ⟨hk1, hk2⟩ := hk
 refine AWp.seq ?_
 refine AWp.regK [0,1,7,8,9] [] F174r2 [] (by kernel_rfl) (by rw [hC]; rfl) fun K hK => ?_
 simp (maxSteps := 2000000) [F174r2]
 refine hK _ ?_
 refine AWp.seq ?_
 refine AWp.cond _ (by rfl) (fun hlt => ?_) (fun hge => ?_)
 ·skip
  have hlt : k < l.length := by simpa using hlt
  have hd := fid_drop p l k hlt
  have hpk := hp l[k] (List.getElem_mem hlt)
  refine AWp.skip ?_
  refine AWp.seq ?_
  refine AWp.block ?_
  refine AWp.seq ?_
  refine AWp.regK [0,1,5,7,8] [true,true] F174r3 [] (by kernel_rfl) (by rw [hC]; rfl) fun K hK => ?_
  simp (maxSteps := 2000000) [F174r3, hlt]
  refine hK _ ?_
  refine AWp.seq ?_
  refine AWp.regK [0,1,5,7,8,16] [] F174r4 [{ r := bval (p l[k]) }] (by kernel_rfl) (by rw [hC]; rfl) fun K hK => ?_
  simp (maxSteps := 2000000) [F174r4, hlt]
  (repeat first | refine ⟨by first | kernel_rfl | (intros; omega) | assumption, ?_⟩ | refine ⟨by intros; exact callOK (by simpa using hc) hpk, ?_⟩); refine hK _ ?_
  refine AWp.cond _ (by rfl) (fun hq => ?_) (fun hq => ?_)
  ·skip
   refine AWp.seq ?_
   refine AWp.regK [4] [true,true] F174r5 [] (by kernel_rfl) (by rw [hC]; rfl) fun K hK => ?_
   simp (maxSteps := 2000000) [F174r5]
   refine hK _ ?_
   repeat refine AWp.seq ?_
   refine AWp.ret ⟨.inr rfl, _, by simp [Tryz.results174] <;> rfl, ?_⟩
   refine .clos ?_ rfl
   rw [hk2, hd, if_pos hq]; rfl
  refine AWp.skip ?_
  refine AWp.regK [0,1,7,8] [] F174r6 [] (by kernel_rfl) (by rw [hC]; rfl) fun K hK => ?_
  simp (maxSteps := 2000000) [F174r6]
  (repeat refine ⟨by first | omega | (intros; omega) | assumption, ?_⟩); refine hK _ ?_
  refine ⟨k + 1, ⟨by omega, by rw [hk2, hd, if_neg (by simp [hq])]⟩, by omega, ?_⟩
  simp [hw, wrap_nat k (by omega)]
 have hge : ¬ k < l.length := by simpa using hge
 refine AWp.exit ?_
 refine AWp.seq ?_
 refine AWp.regK [4] [true] F174r7 [] (by kernel_rfl) (by rw [hC]; rfl) fun K hK => ?_
 simp (maxSteps := 2000000) [F174r7]
 refine hK _ ?_
 repeat refine AWp.seq ?_
 refine AWp.ret ⟨.inr rfl, _, by simp [Tryz.results174] <;> rfl, ?_⟩
 refine .clos ?_ rfl
 rw [hk2, List.drop_eq_nil_of_le (by omega)]; rfl
theorem ContainsFuncN_ok (l : List ExprD) (hl : l.length ≤ 4194304) (f : FuncId) (caps : List AV) (hc : norefL caps = true) (p : ExprD → Bool) (hp : ∀ x ∈ l, Con Tryz.prog f (nevX x :: caps) (bval (p x))) :
  Con Tryz.prog 140 [encNR l, .clo (.func f) caps] (bval (l.any p)) := by
 have h1 := IndexFuncN_ok l hl f caps hc p hp
 have h2 := fid_any p l 0
 refine Con.of_code Tryz.func140 (by kernel_rfl) rfl (by simp [Tryz.ntmps140]) fun C hC hM => ?_
 refine AWp.seq ?_
 refine AWp.regK [0,1] [true] F140r0 [] (by kernel_rfl) (by rw [hC]; rfl) fun K hK => ?_
 simp (maxSteps := 2000000) [F140r0]
 refine hK _ ?_
 refine AWp.seq ?_
 refine AWp.regK [4] [false,false,false,false,true] F140r1 [{ r := ival (fid p l 0) }] (by kernel_rfl) (by rw [hC]; rfl) fun K hK => ?_
 simp (maxSteps := 2000000) [F140r1]
 (repeat first | refine ⟨by first | kernel_rfl | (intros; omega) | assumption, ?_⟩ | refine ⟨by intros; exact callOK (by simpa using hc) h1, ?_⟩); refine hK _ ?_
 repeat refine AWp.seq ?_
 refine AWp.ret ⟨.inr rfl, _, by simp [Tryz.results140] <;> rfl, ?_⟩
 refine .clos ?_ rfl
 rw [← h2]; simp
theorem deepestL_ok (g : FuncId) (d : ExprD → Nat) (l : List ExprD) (hl : l.length ≤ 4194304) (hd : ∀ e ∈ l, d e ≤ 4611686018427387904) (h : ∀ e ∈ l, Con Tryz.prog g [litX e] (ival (d e))) :
  Con Tryz.prog 116 [encLR l, .val (.func (.func g) #[] #[])] (ival (maxD d l)) := by
 refine Con.of_code Tryz.func116 (by kernel_rfl) rfl (by simp [Tryz.ntmps116]) fun C hC hM => ?_
 refine AWp.seq ?_
 refine AWp.regK [0,1] [true] F116r0 [] (by kernel_rfl) (by rw [hC]; rfl) fun K hK => ?_
 simp (maxSteps := 2000000) [F116r0]
 refine hK _ ?_
 refine AWp.seq ?_
 refine AWp.regK [0,1,5] [true] F116r1 [] (by kernel_rfl) (by rw [hC]; rfl) fun K hK => ?_
 simp (maxSteps := 2000000) [F116r1]
 refine hK _ ?_
 refine AWp.seq ?_
 refine AWp.seq ?_
 refine AWp.regK [1,5,8,9,10] [] F116r2 [] (by kernel_rfl) (by rw [hC]; rfl) fun K hK => ?_
 simp (maxSteps := 2000000) [F116r2]
 refine hK _ ?_
 refine AWp.block ?_
 refine AWp.loopG (fun k : Nat => { tm := [(1, .val (.func (.func g) #[] #[])), (5, ival (maxD d (l.take k))), (8, encLR l), (9, ival l.length), (10, ival k)], hp := [] }) (fun k => k ≤ l.length) (fun k => l.length - k) 0 (by omega) (by simp [maxD]) (fun k hk => ?_)
 refine AWp.seq ?_
 refine AWp.regK [1,5,8,9,10,11] [] F116r3 [] (by kernel_rfl) (by rw [hC]; rfl) fun K hK => ?_
 simp (maxSteps := 2000000) [F116r3]
 refine hK _ ?_
 refine AWp.seq ?_
 refine AWp.cond _ (by rfl) (fun hlt => ?_) (fun hge => ?_)
 ·skip
  have hlt : k < l.length := by simpa using hlt
  have hc := h l[k] (List.getElem_mem hlt)
  refine AWp.skip ?_
  refine AWp.seq ?_
  refine AWp.block ?_
  refine AWp.seq ?_
  refine AWp.regK [1,5,7,8,9,10] [false,false,false,true] F116r4 [] (by kernel_rfl) (by rw [hC]; rfl) fun K hK => ?_
  simp (maxSteps := 2000000) [F116r4, hlt]
  (repeat refine ⟨by first | omega | (intros; omega) | assumption, ?_⟩); refine hK _ ?_
  refine AWp.regK [1,5,8,9,10] [false,false,false,false,false,true] F116r5 [{ r := ival (d l[k]) }] (by kernel_rfl) (by rw [hC]; rfl) fun K hK => ?_
  simp (maxSteps := 2000000) [F116r5, hlt]
  (repeat first | refine ⟨by first | kernel_rfl | (intros; omega) | assumption, ?_⟩ | refine ⟨by intros; exact callOK rfl hc, ?_⟩); refine hK _ ?_
  refine AWp.regK [1,5,8,9,10] [] F116r6 [] (by kernel_rfl) (by rw [hC]; rfl) fun K hK => ?_
  simp (maxSteps := 2000000) [F116r6]
  (repeat refine ⟨by first | omega | (intros; omega) | assumption, ?_⟩); refine hK _ ?_
  refine ⟨k + 1, by omega, by omega, ?_⟩
  have hm := maxD_take d l k hlt
  generalize maxD d (List.take k l) = a at hm ⊢
  simp [wrap_nat k (by omega), hm]
  split <;> omega
 have hge : ¬ k < l.length := by simpa using hge
 refine AWp.exit ?_
 refine AWp.seq ?_
 refine AWp.regK [4] [true,true] F116r7 [] (by kernel_rfl) (by rw [hC]; rfl) fun K hK => ?_
 simp (maxSteps := 2000000) [F116r7]
 refine hK _ ?_
 repeat refine AWp.seq ?_
 refine AWp.ret ⟨.inr rfl, _, by simp [Tryz.results116] <;> rfl, ?_⟩
 refine .clos ?_ rfl
 rw [List.take_of_length_le (by omega)]; rfl
theorem deepestN_ok (g : FuncId) (d : ExprD → Nat) (l : List ExprD) (hl : l.length ≤ 4194304) (hd : ∀ e ∈ l, d e ≤ 4611686018427387904) (h : ∀ e ∈ l, Con Tryz.prog g [nevX e] (ival (d e))) :
  Con Tryz.prog 118 [encNR l, .val (.func (.func g) #[] #[])] (ival (maxD d l)) := by
 refine Con.of_code Tryz.func118 (by kernel_rfl) rfl (by simp [Tryz.ntmps118]) fun C hC hM => ?_
 refine AWp.seq ?_
 refine AWp.regK [0,1] [true] F118r0 [] (by kernel_rfl) (by rw [hC]; rfl) fun K hK => ?_
 simp (maxSteps := 2000000) [F118r0]
 refine hK _ ?_
 refine AWp.seq ?_
 refine AWp.regK [0,1,5] [true] F118r1 [] (by kernel_rfl) (by rw [hC]; rfl) fun K hK => ?_
 simp (maxSteps := 2000000) [F118r1]
 refine hK _ ?_
 refine AWp.seq ?_
 refine AWp.seq ?_
 refine AWp.regK [1,5,8,9,10] [] F118r2 [] (by kernel_rfl) (by rw [hC]; rfl) fun K hK => ?_
 simp (maxSteps := 2000000) [F118r2]
 refine hK _ ?_
 refine AWp.block ?_
 refine AWp.loopG (fun k : Nat => { tm := [(1, .val (.func (.func g) #[] #[])), (5, ival (maxD d (l.take k))), (8, encNR l), (9, ival l.length), (10, ival k)], hp := [] }) (fun k => k ≤ l.length) (fun k => l.length - k) 0 (by omega) (by simp [maxD]) (fun k hk => ?_)
 refine AWp.seq ?_
 refine AWp.regK [1,5,8,9,10,11] [] F118r3 [] (by kernel_rfl) (by rw [hC]; rfl) fun K hK => ?_
 simp (maxSteps := 2000000) [F118r3]
 refine hK _ ?_
 refine AWp.seq ?_
 refine AWp.cond _ (by rfl) (fun hlt => ?_) (fun hge => ?_)
 ·skip
  have hlt : k < l.length := by simpa using hlt
  have hc := h l[k] (List.getElem_mem hlt)
  refine AWp.skip ?_
  refine AWp.seq ?_
  refine AWp.block ?_
  refine AWp.seq ?_
  refine AWp.regK [1,5,7,8,9,10] [false,false,false,true] F118r4 [] (by kernel_rfl) (by rw [hC]; rfl) fun K hK => ?_
  simp (maxSteps := 2000000) [F118r4, hlt]
  (repeat refine ⟨by first | omega | (intros; omega) | assumption, ?_⟩); refine hK _ ?_
  refine AWp.regK [1,5,8,9,10] [false,false,false,false,false,true] F118r5 [{ r := ival (d l[k]) }] (by kernel_rfl) (by rw [hC]; rfl) fun K hK => ?_
  simp (maxSteps := 2000000) [F118r5, hlt]
  (repeat first | refine ⟨by first | kernel_rfl | (intros; omega) | assumption, ?_⟩ | refine ⟨by intros; exact callOK rfl hc, ?_⟩); refine hK _ ?_
  refine AWp.regK [1,5,8,9,10] [] F118r6 [] (by kernel_rfl) (by rw [hC]; rfl) fun K hK => ?_
  simp (maxSteps := 2000000) [F118r6]
  (repeat refine ⟨by first | omega | (intros; omega) | assumption, ?_⟩); refine hK _ ?_
  refine ⟨k + 1, by omega, by omega, ?_⟩
  have hm := maxD_take d l k hlt
  generalize maxD d (List.take k l) = a at hm ⊢
  simp [wrap_nat k (by omega), hm]
  split <;> omega
 have hge : ¬ k < l.length := by simpa using hge
 refine AWp.exit ?_
 refine AWp.seq ?_
 refine AWp.regK [4] [true,true] F118r7 [] (by kernel_rfl) (by rw [hC]; rfl) fun K hK => ?_
 simp (maxSteps := 2000000) [F118r7]
 refine hK _ ?_
 repeat refine AWp.seq ?_
 refine AWp.ret ⟨.inr rfl, _, by simp [Tryz.results118] <;> rfl, ?_⟩
 refine .clos ?_ rfl
 rw [List.take_of_length_le (by omega)]; rfl
theorem deepestTd_ok (g : FuncId) : Con Tryz.prog 106 [nilA, .val (.func (.func g) #[] #[])] (ival 0) := by
 refine Con.of_code Tryz.func106 (by kernel_rfl) rfl (by simp [Tryz.ntmps106]) fun C hC hM => ?_
 refine AWp.seq ?_
 refine AWp.regK [0,1] [true] F106r0 [] (by kernel_rfl) (by rw [hC]; rfl) fun K hK => ?_
 simp (maxSteps := 2000000) [F106r0]
 refine hK _ ?_
 refine AWp.seq ?_
 refine AWp.regK [0,1,5] [true] F106r1 [] (by kernel_rfl) (by rw [hC]; rfl) fun K hK => ?_
 simp (maxSteps := 2000000) [F106r1]
 refine hK _ ?_
 refine AWp.seq ?_
 refine AWp.seq ?_
 refine AWp.regK [1,5,8,9,10] [] F106r2 [] (by kernel_rfl) (by rw [hC]; rfl) fun K hK => ?_
 simp (maxSteps := 2000000) [F106r2]
 refine hK _ ?_
 refine AWp.block ?_
 refine AWp.loopG (fun _ : Unit => { tm := [(5, ival 0), (9, ival 0), (10, ival 0)], hp := [] }) (fun _ => True) (fun _ => 0) () trivial (by simp) (fun _ _ => ?_)
 refine AWp.seq ?_
 refine AWp.regK [1,5,8,9,10,11] [] F106r3 [] (by kernel_rfl) (by rw [hC]; rfl) fun K hK => ?_
 simp (maxSteps := 2000000) [F106r3]
 refine hK _ ?_
 refine AWp.seq ?_
 refine AWp.cond false (by simp) (fun he => by cases he) (fun _ => ?_)
 refine AWp.exit ?_
 refine AWp.seq ?_
 refine AWp.regK [4] [true,true] F106r7 [] (by kernel_rfl) (by rw [hC]; rfl) fun K hK => ?_
 simp (maxSteps := 2000000) [F106r7]
 refine hK _ ?_
 repeat refine AWp.seq ?_
 refine AWp.ret ⟨.inr rfl, _, by simp [Tryz.results106] <;> rfl, ?_⟩
 exact .closed rfl
theorem deepestRd_ok (g : FuncId) : Con Tryz.prog 112 [nilA, .val (.func (.func g) #[] #[])] (ival 0) := by
 refine Con.of_code Tryz.func112 (by kernel_rfl) rfl (by simp [Tryz.ntmps112]) fun C hC hM => ?_
 refine AWp.seq ?_
 refine AWp.regK [0,1] [true] F112r0 [] (by kernel_rfl) (by rw [hC]; rfl) fun K hK => ?_
 simp (maxSteps := 2000000) [F112r0]
 refine hK _ ?_
 refine AWp.seq ?_
 refine AWp.regK [0,1,5] [true] F112r1 [] (by kernel_rfl) (by rw [hC]; rfl) fun K hK => ?_
 simp (maxSteps := 2000000) [F112r1]
 refine hK _ ?_
 refine AWp.seq ?_
 refine AWp.seq ?_
 refine AWp.regK [1,5,8,9,10] [] F112r2 [] (by kernel_rfl) (by rw [hC]; rfl) fun K hK => ?_
 simp (maxSteps := 2000000) [F112r2]
 refine hK _ ?_
 refine AWp.block ?_
 refine AWp.loopG (fun _ : Unit => { tm := [(5, ival 0), (9, ival 0), (10, ival 0)], hp := [] }) (fun _ => True) (fun _ => 0) () trivial (by simp) (fun _ _ => ?_)
 refine AWp.seq ?_
 refine AWp.regK [1,5,8,9,10,11] [] F112r3 [] (by kernel_rfl) (by rw [hC]; rfl) fun K hK => ?_
 simp (maxSteps := 2000000) [F112r3]
 refine hK _ ?_
 refine AWp.seq ?_
 refine AWp.cond false (by simp) (fun he => by cases he) (fun _ => ?_)
 refine AWp.exit ?_
 refine AWp.seq ?_
 refine AWp.regK [4] [true,true] F112r7 [] (by kernel_rfl) (by rw [hC]; rfl) fun K hK => ?_
 simp (maxSteps := 2000000) [F112r7]
 refine hK _ ?_
 repeat refine AWp.seq ?_
 refine AWp.ret ⟨.inr rfl, _, by simp [Tryz.results112] <;> rfl, ?_⟩
 exact .closed rfl
theorem deepestRu_ok (g : FuncId) : Con Tryz.prog 114 [nilA, .val (.func (.func g) #[] #[])] (ival 0) := by
 refine Con.of_code Tryz.func114 (by kernel_rfl) rfl (by simp [Tryz.ntmps114]) fun C hC hM => ?_
 refine AWp.seq ?_
 refine AWp.regK [0,1] [true] F114r0 [] (by kernel_rfl) (by rw [hC]; rfl) fun K hK => ?_
 simp (maxSteps := 2000000) [F114r0]
 refine hK _ ?_
 refine AWp.seq ?_
 refine AWp.regK [0,1,5] [true] F114r1 [] (by kernel_rfl) (by rw [hC]; rfl) fun K hK => ?_
 simp (maxSteps := 2000000) [F114r1]
 refine hK _ ?_
 refine AWp.seq ?_
 refine AWp.seq ?_
 refine AWp.regK [1,5,8,9,10] [] F114r2 [] (by kernel_rfl) (by rw [hC]; rfl) fun K hK => ?_
 simp (maxSteps := 2000000) [F114r2]
 refine hK _ ?_
 refine AWp.block ?_
 refine AWp.loopG (fun _ : Unit => { tm := [(5, ival 0), (9, ival 0), (10, ival 0)], hp := [] }) (fun _ => True) (fun _ => 0) () trivial (by simp) (fun _ _ => ?_)
 refine AWp.seq ?_
 refine AWp.regK [1,5,8,9,10,11] [] F114r3 [] (by kernel_rfl) (by rw [hC]; rfl) fun K hK => ?_
 simp (maxSteps := 2000000) [F114r3]
 refine hK _ ?_
 refine AWp.seq ?_
 refine AWp.cond false (by simp) (fun he => by cases he) (fun _ => ?_)
 refine AWp.exit ?_
 refine AWp.seq ?_
 refine AWp.regK [4] [true,true] F114r7 [] (by kernel_rfl) (by rw [hC]; rfl) fun K hK => ?_
 simp (maxSteps := 2000000) [F114r7]
 refine hK _ ?_
 repeat refine AWp.seq ?_
 refine AWp.ret ⟨.inr rfl, _, by simp [Tryz.results114] <;> rfl, ?_⟩
 exact .closed rfl
theorem IndexFuncIm_ok (f : FuncId) (caps : List AV) (hc : norefL caps = true) : Con Tryz.prog 161 [nilA, .clo (.func f) caps] (ival (-1)) := by
 have hw : withinL [] caps = true := withinL_of_noref [] caps hc
 refine Con.of_code Tryz.func161 (by kernel_rfl) rfl (by simp [Tryz.ntmps161]) fun C hC hM => ?_
 refine AWp.seq ?_
 refine AWp.regK [0,1] [true] F161r0 [] (by kernel_rfl) (by rw [hC]; rfl) fun K hK => ?_
 simp (maxSteps := 2000000) [F161r0]
 refine hK _ ?_
 refine AWp.seq ?_
 refine AWp.seq ?_
 refine AWp.regK [0,1,7,8] [] F161r1 [] (by kernel_rfl) (by rw [hC]; rfl) fun K hK => ?_
 simp (maxSteps := 2000000) [F161r1]
 refine hK _ ?_
 refine AWp.block ?_
 refine AWp.loopG (fun _ : Unit => { tm := [(7, ival 0), (8, ival 0)], hp := [] }) (fun _ => True) (fun _ => 0) () trivial (by simp) (fun _ _ => ?_)
 refine AWp.seq ?_
 refine AWp.regK [0,1,7,8,9] [] F161r2 [] (by kernel_rfl) (by rw [hC]; rfl) fun K hK => ?_
 simp (maxSteps := 2000000) [F161r2]
 refine hK _ ?_
 refine AWp.seq ?_
 refine AWp.cond false (by simp) (fun he => by cases he) (fun _ => ?_)
 refine AWp.exit ?_
 refine AWp.seq ?_
 refine AWp.regK [4] [true] F161r7 [] (by kernel_rfl) (by rw [hC]; rfl) fun K hK => ?_
 simp (maxSteps := 2000000) [F161r7]
 refine hK _ ?_
 repeat refine AWp.seq ?_
 refine AWp.ret ⟨.inr rfl, _, by simp [Tryz.results161] <;> rfl, ?_⟩
 exact .closed rfl
theorem ContainsFuncIm_ok (f : FuncId) (caps : List AV) (hc : norefL caps = true) : Con Tryz.prog 122 [nilA, .clo (.func f) caps] (bval false) := by
 have h1 := IndexFuncIm_ok f caps hc
 refine Con.of_code Tryz.func122 (by kernel_rfl) rfl (by simp [Tryz.ntmps122]) fun C hC hM => ?_
 refine AWp.seq ?_
 refine AWp.regK [0,1] [true] F122r0 [] (by kernel_rfl) (by rw [hC]; rfl) fun K hK => ?_
 simp (maxSteps := 2000000) [F122r0]
 refine hK _ ?_
 refine AWp.seq ?_
 refine AWp.regK [4] [false,false,false,false,true] F122r1 [{ r := ival (-1) }] (by kernel_rfl) (by rw [hC]; rfl) fun K hK => ?_
 simp (maxSteps := 2000000) [F122r1]
 (repeat first | refine ⟨by first | kernel_rfl | (intros; omega) | assumption, ?_⟩ | refine ⟨by intros; exact callOK (by simpa using hc) h1, ?_⟩); refine hK _ ?_
 repeat refine AWp.seq ?_
 refine AWp.ret ⟨.inr rfl, _, by simp [Tryz.results122] <;> rfl, ?_⟩
 exact .closed rfl
theorem allIm_ok (g : FuncId) : Con Tryz.prog 80 [nilA, .val (.func (.func g) #[] #[])] (bval true) := by
 have h1 := ContainsFuncIm_ok 123 [.elt 1 [[.val (.func (.func g) #[] #[])]] 0 0] rfl
 refine Con.of_code Tryz.func80 (by kernel_rfl) rfl (by simp [Tryz.ntmps80]) fun C hC hM => ?_
 refine AWp.seq ?_
 refine AWp.regK [0,3] [false,true] F80r0 [] (by kernel_rfl) (by rw [hC]; rfl) fun K hK => ?_
 simp (maxSteps := 2000000) [F80r0]
 refine hK _ ?_
 refine AWp.seq ?_
 refine AWp.regK [4] [false,false,false,false,true] F80r1 [{ r := bval false,us := [3] }] (by kernel_rfl) (by rw [hC]; rfl) fun K hK => ?_
 simp (maxSteps := 2000000) [F80r1]
 (repeat first | refine ⟨by first | kernel_rfl | (intros; omega) | assumption, ?_⟩ | refine ⟨by intros; exact ⟨_, .cons (.closed rfl) (.cons (.clo (.cons (.ptr rfl (.cons (.closed rfl) .nil)) .nil)) .nil), h1⟩, ?_⟩); refine hK _ ?_
 repeat refine AWp.seq ?_
 refine AWp.ret ⟨.inr rfl, _, by simp [Tryz.results80] <;> rfl, ?_⟩
 exact .closed rfl
theorem IndexFuncTd_ok (f : FuncId) (caps : List AV) (hc : norefL caps = true) : Con Tryz.prog 162 [nilA, .clo (.func f) caps] (ival (-1)) := by
 have hw : withinL [] caps = true := withinL_of_noref [] caps hc
 refine Con.of_code Tryz.func162 (by kernel_rfl) rfl (by simp [Tryz.ntmps162]) fun C hC hM => ?_
 refine AWp.seq ?_
 refine AWp.regK [0,1] [true] F162r0 [] (by kernel_rfl) (by rw [hC]; rfl) fun K hK => ?_
 simp (maxSteps := 2000000) [F162r0]
 refine hK _ ?_
 refine AWp.seq ?_
 refine AWp.seq ?_
 refine AWp.regK [0,1,7,8] [] F162r1 [] (by kernel_rfl) (by rw [hC]; rfl) fun K hK => ?_
 simp (maxSteps := 2000000) [F162r1]
 refine hK _ ?_
 refine AWp.block ?_
 refine AWp.loopG (fun _ : Unit => { tm := [(7, ival 0), (8, ival 0)], hp := [] }) (fun _ => True) (fun _ => 0) () trivial (by simp) (fun _ _ => ?_)
 refine AWp.seq ?_
 refine AWp.regK [0,1,7,8,9] [] F162r2 [] (by kernel_rfl) (by rw [hC]; rfl) fun K hK => ?_
 simp (maxSteps := 2000000) [F162r2]
 refine hK _ ?_
 refine AWp.seq ?_
 refine AWp.cond false (by simp) (fun he => by cases he) (fun _ => ?_)
 refine AWp.exit ?_
 refine AWp.seq ?_
 refine AWp.regK [4] [true] F162r7 [] (by kernel_rfl) (by rw [hC]; rfl) fun K hK => ?_
 simp (maxSteps := 2000000) [F162r7]
 refine hK _ ?_
 repeat refine AWp.seq ?_
 refine AWp.ret ⟨.inr rfl, _, by simp [Tryz.results162] <;> rfl, ?_⟩
 exact .closed rfl
theorem ContainsFuncTd_ok (f : FuncId) (caps : List AV) (hc : norefL caps = true) : Con Tryz.prog 124 [nilA, .clo (.func f) caps] (bval false) := by
 have h1 := IndexFuncTd_ok f caps hc
 refine Con.of_code Tryz.func124 (by kernel_rfl) rfl (by simp [Tryz.ntmps124]) fun C hC hM => ?_
 refine AWp.seq ?_
 refine AWp.regK [0,1] [true] F124r0 [] (by kernel_rfl) (by rw [hC]; rfl) fun K hK => ?_
 simp (maxSteps := 2000000) [F124r0]
 refine hK _ ?_
 refine AWp.seq ?_
 refine AWp.regK [4] [false,false,false,false,true] F124r1 [{ r := ival (-1) }] (by kernel_rfl) (by rw [hC]; rfl) fun K hK => ?_
 simp (maxSteps := 2000000) [F124r1]
 (repeat first | refine ⟨by first | kernel_rfl | (intros; omega) | assumption, ?_⟩ | refine ⟨by intros; exact callOK (by simpa using hc) h1, ?_⟩); refine hK _ ?_
 repeat refine AWp.seq ?_
 refine AWp.ret ⟨.inr rfl, _, by simp [Tryz.results124] <;> rfl, ?_⟩
 exact .closed rfl
theorem allTd_ok (g : FuncId) : Con Tryz.prog 82 [nilA, .val (.func (.func g) #[] #[])] (bval true) := by
 have h1 := ContainsFuncTd_ok 125 [.elt 1 [[.val (.func (.func g) #[] #[])]] 0 0] rfl
 refine Con.of_code Tryz.func82 (by kernel_rfl) rfl (by simp [Tryz.ntmps82]) fun C hC hM => ?_
 refine AWp.seq ?_
 refine AWp.regK [0,3] [false,true] F82r0 [] (by kernel_rfl) (by rw [hC]; rfl) fun K hK => ?_
 simp (maxSteps := 2000000) [F82r0]
 refine hK _ ?_
 refine AWp.seq ?_
 refine AWp.regK [4] [false,false,false,false,true] F82r1 [{ r := bval false,us := [3] }] (by kernel_rfl) (by rw [hC]; rfl) fun K hK => ?_
 simp (maxSteps := 2000000) [F82r1]
 (repeat first | refine ⟨by first | kernel_rfl | (intros; omega) | assumption, ?_⟩ | refine ⟨by intros; exact ⟨_, .cons (.closed rfl) (.cons (.clo (.cons (.ptr rfl (.cons (.closed rfl) .nil)) .nil)) .nil), h1⟩, ?_⟩); refine hK _ ?_
 repeat refine AWp.seq ?_
 refine AWp.ret ⟨.inr rfl, _, by simp [Tryz.results82] <;> rfl, ?_⟩
 exact .closed rfl
theorem IndexFuncRd_ok (f : FuncId) (caps : List AV) (hc : norefL caps = true) : Con Tryz.prog 167 [nilA, .clo (.func f) caps] (ival (-1)) := by
 have hw : withinL [] caps = true := withinL_of_noref [] caps hc
 refine Con.of_code Tryz.func167 (by kernel_rfl) rfl (by simp [Tryz.ntmps167]) fun C hC hM => ?_
 refine AWp.seq ?_
 refine AWp.regK [0,1] [true] F167r0 [] (by kernel_rfl) (by rw [hC]; rfl) fun K hK => ?_
 simp (maxSteps := 2000000) [F167r0]
 refine hK _ ?_
 refine AWp.seq ?_
 refine AWp.seq ?_
 refine AWp.regK [0,1,7,8] [] F167r1 [] (by kernel_rfl) (by rw [hC]; rfl) fun K hK => ?_
 simp (maxSteps := 2000000) [F167r1]
 refine hK _ ?_
 refine AWp.block ?_
 refine AWp.loopG (fun _ : Unit => { tm := [(7, ival 0), (8, ival 0)], hp := [] }) (fun _ => True) (fun _ => 0) () trivial (by simp) (fun _ _ => ?_)
 refine AWp.seq ?_
 refine AWp.regK [0,1,7,8,9] [] F167r2 [] (by kernel_rfl) (by rw [hC]; rfl) fun K hK => ?_
 simp (maxSteps := 2000000) [F167r2]
 refine hK _ ?_
 refine AWp.seq ?_
 refine AWp.cond false (by simp) (fun he => by cases he) (fun _ => ?_)
 refine AWp.exit ?_
 refine AWp.seq ?_
 refine AWp.regK [4] [true] F167r7 [] (by kernel_rfl) (by rw [hC]; rfl) fun K hK => ?_
 simp (maxSteps := 2000000) [F167r7]
 refine hK _ ?_
 repeat refine AWp.seq ?_
 refine AWp.ret ⟨.inr rfl, _, by simp [Tryz.results167] <;> rfl, ?_⟩
 exact .closed rfl
theorem ContainsFuncRd_ok (f : FuncId) (caps : List AV) (hc : norefL caps = true) : Con Tryz.prog 130 [nilA, .clo (.func f) caps] (bval false) := by
 have h1 := IndexFuncRd_ok f caps hc
 refine Con.of_code Tryz.func130 (by kernel_rfl) rfl (by simp [Tryz.ntmps130]) fun C hC hM => ?_
 refine AWp.seq ?_
 refine AWp.regK [0,1] [true] F130r0 [] (by kernel_rfl) (by rw [hC]; rfl) fun K hK => ?_
 simp (maxSteps := 2000000) [F130r0]
 refine hK _ ?_
 refine AWp.seq ?_
 refine AWp.regK [4] [false,false,false,false,true] F130r1 [{ r := ival (-1) }] (by kernel_rfl) (by rw [hC]; rfl) fun K hK => ?_
 simp (maxSteps := 2000000) [F130r1]
 (repeat first | refine ⟨by first | kernel_rfl | (intros; omega) | assumption, ?_⟩ | refine ⟨by intros; exact callOK (by simpa using hc) h1, ?_⟩); refine hK _ ?_
 repeat refine AWp.seq ?_
 refine AWp.ret ⟨.inr rfl, _, by simp [Tryz.results130] <;> rfl, ?_⟩
 exact .closed rfl
theorem allRd_ok (g : FuncId) : Con Tryz.prog 84 [nilA, .val (.func (.func g) #[] #[])] (bval true) := by
 have h1 := ContainsFuncRd_ok 131 [.elt 1 [[.val (.func (.func g) #[] #[])]] 0 0] rfl
 refine Con.of_code Tryz.func84 (by kernel_rfl) rfl (by simp [Tryz.ntmps84]) fun C hC hM => ?_
 refine AWp.seq ?_
 refine AWp.regK [0,3] [false,true] F84r0 [] (by kernel_rfl) (by rw [hC]; rfl) fun K hK => ?_
 simp (maxSteps := 2000000) [F84r0]
 refine hK _ ?_
 refine AWp.seq ?_
 refine AWp.regK [4] [false,false,false,false,true] F84r1 [{ r := bval false,us := [3] }] (by kernel_rfl) (by rw [hC]; rfl) fun K hK => ?_
 simp (maxSteps := 2000000) [F84r1]
 (repeat first | refine ⟨by first | kernel_rfl | (intros; omega) | assumption, ?_⟩ | refine ⟨by intros; exact ⟨_, .cons (.closed rfl) (.cons (.clo (.cons (.ptr rfl (.cons (.closed rfl) .nil)) .nil)) .nil), h1⟩, ?_⟩); refine hK _ ?_
 repeat refine AWp.seq ?_
 refine AWp.ret ⟨.inr rfl, _, by simp [Tryz.results84] <;> rfl, ?_⟩
 exact .closed rfl
theorem IndexFuncRu_ok (f : FuncId) (caps : List AV) (hc : norefL caps = true) : Con Tryz.prog 171 [nilA, .clo (.func f) caps] (ival (-1)) := by
 have hw : withinL [] caps = true := withinL_of_noref [] caps hc
 refine Con.of_code Tryz.func171 (by kernel_rfl) rfl (by simp [Tryz.ntmps171]) fun C hC hM => ?_
 refine AWp.seq ?_
 refine AWp.regK [0,1] [true] F171r0 [] (by kernel_rfl) (by rw [hC]; rfl) fun K hK => ?_
 simp (maxSteps := 2000000) [F171r0]
 refine hK _ ?_
 refine AWp.seq ?_
 refine AWp.seq ?_
 refine AWp.regK [0,1,7,8] [] F171r1 [] (by kernel_rfl) (by rw [hC]; rfl) fun K hK => ?_
 simp (maxSteps := 2000000) [F171r1]
 refine hK _ ?_
 refine AWp.block ?_
 refine AWp.loopG (fun _ : Unit => { tm := [(7, ival 0), (8, ival 0)], hp := [] }) (fun _ => True) (fun _ => 0) () trivial (by simp) (fun _ _ => ?_)
 refine AWp.seq ?_
 refine AWp.regK [0,1,7,8,9] [] F171r2 [] (by kernel_rfl) (by rw [hC]; rfl) fun K hK => ?_
 simp (maxSteps := 2000000) [F171r2]
 refine hK _ ?_
 refine AWp.seq ?_
 refine AWp.cond false (by simp) (fun he => by cases he) (fun _ => ?_)
 refine AWp.exit ?_
 refine AWp.seq ?_
 refine AWp.regK [4] [true] F171r7 [] (by kernel_rfl) (by rw [hC]; rfl) fun K hK => ?_
 simp (maxSteps := 2000000) [F171r7]
 refine hK _ ?_
 repeat refine AWp.seq ?_
 refine AWp.ret ⟨.inr rfl, _, by simp [Tryz.results171] <;> rfl, ?_⟩
 exact .closed rfl
theorem ContainsFuncRu_ok (f : FuncId) (caps : List AV) (hc : norefL caps = true) : Con Tryz.prog 135 [nilA, .clo (.func f) caps] (bval false) := by
 have h1 := IndexFuncRu_ok f caps hc
 refine Con.of_code Tryz.func135 (by kernel_rfl) rfl (by simp [Tryz.ntmps135]) fun C hC hM => ?_
 refine AWp.seq ?_
 refine AWp.regK [0,1] [true] F135r0 [] (by kernel_rfl) (by rw [hC]; rfl) fun K hK => ?_
 simp (maxSteps := 2000000) [F135r0]
 refine hK _ ?_
 refine AWp.seq ?_
 refine AWp.regK [4] [false,false,false,false,true] F135r1 [{ r := ival (-1) }] (by kernel_rfl) (by rw [hC]; rfl) fun K hK => ?_
 simp (maxSteps := 2000000) [F135r1]
 (repeat first | refine ⟨by first | kernel_rfl | (intros; omega) | assumption, ?_⟩ | refine ⟨by intros; exact callOK (by simpa using hc) h1, ?_⟩); refine hK _ ?_
 repeat refine AWp.seq ?_
 refine AWp.ret ⟨.inr rfl, _, by simp [Tryz.results135] <;> rfl, ?_⟩
 exact .closed rfl
theorem allRu_ok (g : FuncId) : Con Tryz.prog 87 [nilA, .val (.func (.func g) #[] #[])] (bval true) := by
 have h1 := ContainsFuncRu_ok 136 [.elt 1 [[.val (.func (.func g) #[] #[])]] 0 0] rfl
 refine Con.of_code Tryz.func87 (by kernel_rfl) rfl (by simp [Tryz.ntmps87]) fun C hC hM => ?_
 refine AWp.seq ?_
 refine AWp.regK [0,3] [false,true] F87r0 [] (by kernel_rfl) (by rw [hC]; rfl) fun K hK => ?_
 simp (maxSteps := 2000000) [F87r0]
 refine hK _ ?_
 refine AWp.seq ?_
 refine AWp.regK [4] [false,false,false,false,true] F87r1 [{ r := bval false,us := [3] }] (by kernel_rfl) (by rw [hC]; rfl) fun K hK => ?_
 simp (maxSteps := 2000000) [F87r1]
 (repeat first | refine ⟨by first | kernel_rfl | (intros; omega) | assumption, ?_⟩ | refine ⟨by intros; exact ⟨_, .cons (.closed rfl) (.cons (.clo (.cons (.ptr rfl (.cons (.closed rfl) .nil)) .nil)) .nil), h1⟩, ?_⟩); refine hK _ ?_
 repeat refine AWp.seq ?_
 refine AWp.ret ⟨.inr rfl, _, by simp [Tryz.results87] <;> rfl, ?_⟩
 exact .closed rfl
theorem allLF_ok (g : FuncId) (p : ExprD → Bool) (e : ExprD) (h : Con Tryz.prog g [litX e] (bval (p e))) : Con Tryz.prog 143 [litX e, .elt 1 [[.val (.func (.func g) #[] #[])]] 0 0] (bval (!p e)) := by
 refine Con.of_code Tryz.func143 (by kernel_rfl) rfl (by simp [Tryz.ntmps143]) fun C hC hM => ?_
 refine AWp.seq ?_
 refine AWp.regK [1,2] [false,true] F143r0 [] (by kernel_rfl) (by rw [hC]; rfl) fun K hK => ?_
 simp (maxSteps := 2000000) [F143r0]
 refine hK _ ?_
 refine AWp.seq ?_
 refine AWp.regK [3] [false,false,false,false,true] F143r1 [{ r := bval (p e) }] (by kernel_rfl) (by rw [hC]; rfl) fun K hK => ?_
 simp (maxSteps := 2000000) [F143r1]
 (repeat first | refine ⟨by first | kernel_rfl | (intros; omega) | assumption, ?_⟩ | refine ⟨by intros; exact callOK rfl h, ?_⟩); refine hK _ ?_
 repeat refine AWp.seq ?_
 refine AWp.ret ⟨.inr rfl, _, by simp [Tryz.results143] <;> rfl, ?_⟩
 exact .closed rfl
theorem allL_ok (g : FuncId) (p : ExprD → Bool) (l : List ExprD) (hl : l.length ≤ 4194304) (h : ∀ e ∈ l, Con Tryz.prog g [litX e] (bval (p e))) : Con Tryz.prog 91 [encLR l, .val (.func (.func g) #[] #[])] (bval (l.all p)) := by
 have h1 := ContainsFuncL_ok l hl 143 [.elt 1 [[.val (.func (.func g) #[] #[])]] 0 0] rfl (fun e => !p e) (fun e he => allLF_ok g p e (h e he))
 refine Con.of_code Tryz.func91 (by kernel_rfl) rfl (by simp [Tryz.ntmps91]) fun C hC hM => ?_
 refine AWp.seq ?_
 refine AWp.regK [0,3] [false,true] F91r0 [] (by kernel_rfl) (by rw [hC]; rfl) fun K hK => ?_
 simp (maxSteps := 2000000) [F91r0]
 refine hK _ ?_
 refine AWp.seq ?_
 refine AWp.regK [4] [false,false,false,false,true] F91r1 [{ r := bval (l.any fun e => !p e),us := [3] }] (by kernel_rfl) (by rw [hC]; rfl) fun K hK => ?_
 simp (maxSteps := 2000000) [F91r1]
 (repeat first | refine ⟨by first | kernel_rfl | (intros; omega) | assumption, ?_⟩ | refine ⟨by intros; exact ⟨_, .cons (.closed rfl) (.cons (.clo (.cons (.ptr rfl (.cons (.closed rfl) .nil)) .nil)) .nil), h1⟩, ?_⟩); refine hK _ ?_
 repeat refine AWp.seq ?_
 refine AWp.ret ⟨.inr rfl, _, by simp [Tryz.results91] <;> rfl, ?_⟩
 refine .clos ?_ rfl
 simp [any_not]
theorem allNF_ok (g : FuncId) (p : ExprD → Bool) (e : ExprD) (h : Con Tryz.prog g [nevX e] (bval (p e))) : Con Tryz.prog 141 [nevX e, .elt 1 [[.val (.func (.func g) #[] #[])]] 0 0] (bval (!p e)) := by
 refine Con.of_code Tryz.func141 (by kernel_rfl) rfl (by simp [Tryz.ntmps141]) fun C hC hM => ?_
 refine AWp.seq ?_
 refine AWp.regK [1,2] [false,true] F141r0 [] (by kernel_rfl) (by rw [hC]; rfl) fun K hK => ?_
 simp (maxSteps := 2000000) [F141r0]
 refine hK _ ?_
 refine AWp.seq ?_
 refine AWp.regK [3] [false,false,false,false,true] F141r1 [{ r := bval (p e) }] (by kernel_rfl) (by rw [hC]; rfl) fun K hK => ?_
 simp (maxSteps := 2000000) [F141r1]
 (repeat first | refine ⟨by first | kernel_rfl | (intros; omega) | assumption, ?_⟩ | refine ⟨by intros; exact callOK rfl h, ?_⟩); refine hK _ ?_
 repeat refine AWp.seq ?_
 refine AWp.ret ⟨.inr rfl, _, by simp [Tryz.results141] <;> rfl, ?_⟩
 exact .closed rfl
theorem allN_ok (g : FuncId) (p : ExprD → Bool) (l : List ExprD) (hl : l.length ≤ 4194304) (h : ∀ e ∈ l, Con Tryz.prog g [nevX e] (bval (p e))) : Con Tryz.prog 89 [encNR l, .val (.func (.func g) #[] #[])] (bval (l.all p)) := by
 have h1 := ContainsFuncN_ok l hl 141 [.elt 1 [[.val (.func (.func g) #[] #[])]] 0 0] rfl (fun e => !p e) (fun e he => allNF_ok g p e (h e he))
 refine Con.of_code Tryz.func89 (by kernel_rfl) rfl (by simp [Tryz.ntmps89]) fun C hC hM => ?_
 refine AWp.seq ?_
 refine AWp.regK [0,3] [false,true] F89r0 [] (by kernel_rfl) (by rw [hC]; rfl) fun K hK => ?_
 simp (maxSteps := 2000000) [F89r0]
 refine hK _ ?_
 refine AWp.seq ?_
 refine AWp.regK [4] [false,false,false,false,true] F89r1 [{ r := bval (l.any fun e => !p e),us := [3] }] (by kernel_rfl) (by rw [hC]; rfl) fun K hK => ?_
 simp (maxSteps := 2000000) [F89r1]
 (repeat first | refine ⟨by first | kernel_rfl | (intros; omega) | assumption, ?_⟩ | refine ⟨by intros; exact ⟨_, .cons (.closed rfl) (.cons (.clo (.cons (.ptr rfl (.cons (.closed rfl) .nil)) .nil)) .nil), h1⟩, ?_⟩); refine hK _ ?_
 repeat refine AWp.seq ?_
 refine AWp.ret ⟨.inr rfl, _, by simp [Tryz.results89] <;> rfl, ?_⟩
 refine .clos ?_ rfl
 simp [any_not]
attribute [local simp] valX encV_eq exprX planX encE_eq encP_eq encPR
theorem IndexFuncE_ok (l : List ExprD) (hl : l.length ≤ 4194304) (f : FuncId) (caps : List AV) (hc : norefL caps = true) (p : ExprD → Bool) (hp : ∀ x ∈ l, Con Tryz.prog f (exprX x :: caps) (bval (p x))) :
  Con Tryz.prog 67 [encER l, .clo (.func f) caps] (ival (fid p l 0)) := by
 have hw : withinL [] caps = true := withinL_of_noref [] caps hc
 refine Con.of_code Tryz.func67 (by kernel_rfl) rfl (by simp [Tryz.ntmps67]) fun C hC hM => ?_
 refine AWp.seq ?_
 refine AWp.regK [0,1] [true] F67r0 [] (by kernel_rfl) (by rw [hC]; rfl) fun K hK => ?_
 simp (maxSteps := 2000000) [F67r0]
 refine hK _ ?_
 refine AWp.seq ?_
 refine AWp.seq ?_
 refine AWp.regK [0,1,7,8] [] F67r1 [] (by kernel_rfl) (by rw [hC]; rfl) fun K hK => ?_
 simp (maxSteps := 2000000) [F67r1]
 refine hK _ ?_
 refine AWp.block ?_
 refine AWp.loopG (fun k : Nat => { tm := [(0, encER l), (1, .clo (.func f) caps), (7, ival l.length), (8, ival k)], hp := [] }) (fun k => k ≤ l.length ∧ fid p l 0 = fid p (l.drop k) k) (fun k => l.length - k) 0 ⟨by omega, by simp⟩ (by simp [hw]) (fun k hk => ?_)
 obtain ⟨hk1, hk2⟩ := hk
 refine AWp.seq ?_
 refine AWp.regK [0,1,7,8,9] [] F67r2 [] (by kernel_rfl) (by rw [hC]; rfl) fun K hK => ?_
 simp (maxSteps := 2000000) [F67r2]
 refine hK _ ?_
 refine AWp.seq ?_
 refine AWp.cond _ (by rfl) (fun hlt => ?_) (fun hge => ?_)
 ·skip
  have hlt : k < l.length := by simpa using hlt
  have hd := fid_drop p l k hlt
  have hpk := hp l[k] (List.getElem_mem hlt)
  refine AWp.skip ?_
  refine AWp.seq ?_
  refine AWp.block ?_
  refine AWp.seq ?_
  refine AWp.regK [0,1,5,7,8] [true,true] F67r3 [] (by kernel_rfl) (by rw [hC]; rfl) fun K hK => ?_
  simp (maxSteps := 2000000) [F67r3, hlt]
  refine hK _ ?_
  refine AWp.seq ?_
  refine AWp.regK [0,1,5,7,8,16] [] F67r4 [{ r := bval (p l[k]) }] (by kernel_rfl) (by rw [hC]; rfl) fun K hK => ?_
  simp (maxSteps := 2000000) [F67r4, hlt]
  (repeat first | refine ⟨by first | kernel_rfl | (intros; omega) | assumption, ?_⟩ | refine ⟨by intros; exact callOK (by simpa using hc) hpk, ?_⟩); refine hK _ ?_
  refine AWp.cond _ (by rfl) (fun hq => ?_) (fun hq => ?_)
  ·skip
   refine AWp.seq ?_
   refine AWp.regK [4] [true,true] F67r5 [] (by kernel_rfl) (by rw [hC]; rfl) fun K hK => ?_
   simp (maxSteps := 2000000) [F67r5]
   refine hK _ ?_
   repeat refine AWp.seq ?_
   refine AWp.ret ⟨.inr rfl, _, by simp [Tryz.results67] <;> rfl, ?_⟩
   refine .clos ?_ rfl
   rw [hk2, hd, if_pos hq]; rfl
  refine AWp.skip ?_
  refine AWp.regK [0,1,7,8] [] F67r6 [] (by kernel_rfl) (by rw [hC]; rfl) fun K hK => ?_
  simp (maxSteps := 2000000) [F67r6]
  (repeat refine ⟨by first | omega | (intros; omega) | assumption, ?_⟩); refine hK _ ?_
  refine ⟨k + 1, ⟨by omega, by rw [hk2, hd, if_neg (by simp [hq])]⟩, by omega, ?_⟩
  simp [hw, wrap_nat k (by omega)]
 have hge : ¬ k < l.length := by simpa using hge
 refine AWp.exit ?_
 refine AWp.seq ?_
 refine AWp.regK [4] [true] F67r7 [] (by kernel_rfl) (by rw [hC]; rfl) fun K hK => ?_
 simp (maxSteps := 2000000) [F67r7]
 refine hK _ ?_
 repeat refine AWp.seq ?_
 refine AWp.ret ⟨.inr rfl, _, by simp [Tryz.results67] <;> rfl, ?_⟩
 refine .clos ?_ rfl
 rw [hk2, List.drop_eq_nil_of_le (by omega)]; rfl
theorem ContainsFuncE_ok (l : List ExprD) (hl : l.length ≤ 4194304) (f : FuncId) (caps : List AV) (hc : norefL caps = true) (p : ExprD → Bool) (hp : ∀ x ∈ l, Con Tryz.prog f (exprX x :: caps) (bval (p x))) :
  Con Tryz.prog 55 [encER l, .clo (.func f) caps] (bval (l.any p)) := by
 have h1 := IndexFuncE_ok l hl f caps hc p hp
 have h2 := fid_any p l 0
 refine Con.of_code Tryz.func55 (by kernel_rfl) rfl (by simp [Tryz.ntmps55]) fun C hC hM => ?_
 refine AWp.seq ?_
 refine AWp.regK [0,1] [true] F55r0 [] (by kernel_rfl) (by rw [hC]; rfl) fun K hK => ?_
 simp (maxSteps := 2000000) [F55r0]
 refine hK _ ?_
 refine AWp.seq ?_
 refine AWp.regK [4] [false,false,false,false,true] F55r1 [{ r := ival (fid p l 0) }] (by kernel_rfl) (by rw [hC]; rfl) fun K hK => ?_
 simp (maxSteps := 2000000) [F55r1]
 (repeat first | refine ⟨by first | kernel_rfl | (intros; omega) | assumption, ?_⟩ | refine ⟨by intros; exact callOK (by simpa using hc) h1, ?_⟩); refine hK _ ?_
 repeat refine AWp.seq ?_
 refine AWp.ret ⟨.inr rfl, _, by simp [Tryz.results55] <;> rfl, ?_⟩
 refine .clos ?_ rfl
 rw [← h2]; simp
theorem IndexFuncP_ok (l : List PlanD) (hl : l.length ≤ 4194304) (f : FuncId) (caps : List AV) (hc : norefL caps = true) (p : PlanD → Bool) (hp : ∀ x ∈ l, Con Tryz.prog f (planX x :: caps) (bval (p x))) :
  Con Tryz.prog 37 [encPR l, .clo (.func f) caps] (ival (fid p l 0)) := by
 have hw : withinL [] caps = true := withinL_of_noref [] caps hc
 refine Con.of_code Tryz.func37 (by kernel_rfl) rfl (by simp [Tryz.ntmps37]) fun C hC hM => ?_
 refine AWp.seq ?_
 refine AWp.regK [0,1] [true] F37r0 [] (by kernel_rfl) (by rw [hC]; rfl) fun K hK => ?_
 simp (maxSteps := 2000000) [F37r0]
 refine hK _ ?_
 refine AWp.seq ?_
 refine AWp.seq ?_
 refine AWp.regK [0,1,7,8] [] F37r1 [] (by kernel_rfl) (by rw [hC]; rfl) fun K hK => ?_
 simp (maxSteps := 2000000) [F37r1]
 refine hK _ ?_
 refine AWp.block ?_
 refine AWp.loopG (fun k : Nat => { tm := [(0, encPR l), (1, .clo (.func f) caps), (7, ival l.length), (8, ival k)], hp := [] }) (fun k => k ≤ l.length ∧ fid p l 0 = fid p (l.drop k) k) (fun k => l.length - k) 0 ⟨by omega, by simp⟩ (by simp [hw]) (fun k hk => ?_)
 obtain ⟨hk1, hk2⟩ := hk
 refine AWp.seq ?_
 refine AWp.regK [0,1,7,8,9] [] F37r2 [] (by kernel_rfl) (by rw [hC]; rfl) fun K hK => ?_
 simp (maxSteps := 2000000) [F37r2]
 refine hK _ ?_
 refine AWp.seq ?_
 refine AWp.cond _ (by rfl) (fun hlt => ?_) (fun hge => ?_)
 ·skip
  have hlt : k < l.length := by simpa using hlt
  have hd := fid_drop p l k hlt
  have hpk := hp l[k] (List.getElem_mem hlt)
  refine AWp.skip ?_
  refine AWp.seq ?_
  refine AWp.block ?_
  refine AWp.seq ?_
  refine AWp.regK [0,1,5,7,8] [true,true] F37r3 [] (by kernel_rfl) (by rw [hC]; rfl) fun K hK => ?_
  simp (maxSteps := 2000000) [F37r3, hlt]
  refine hK _ ?_
  refine AWp.seq ?_
  refine AWp.regK [0,1,5,7,8,16] [] F37r4 [{ r := bval (p l[k]) }] (by kernel_rfl) (by rw [hC]; rfl) fun K hK => ?_
  simp (maxSteps := 2000000) [F37r4, hlt]
  (repeat first | refine ⟨by first | kernel_rfl | (intros; omega) | assumption, ?_⟩ | refine ⟨by intros; exact callOK (by simpa using hc) hpk, ?_⟩); refine hK _ ?_
  refine AWp.cond _ (by rfl) (fun hq => ?_) (fun hq => ?_)
  ·skip
   refine AWp.seq ?_
   refine AWp.regK [4] [true,true] F37r5 [] (by kernel_rfl) (by rw [hC]; rfl) fun K hK => ?_
   simp (maxSteps := 2000000) [F37r5]
   refine hK _ ?_
   repeat refine AWp.seq ?_
   refine AWp.ret ⟨.inr rfl, _, by simp [Tryz.results37] <;> rfl, ?_⟩
   refine .clos ?_ rfl
   rw [hk2, hd, if_pos hq]; rfl
  refine AWp.skip ?_
  refine AWp.regK [0,1,7,8] [] F37r6 [] (by kernel_rfl) (by rw [hC]; rfl) fun K hK => ?_
  simp (maxSteps := 2000000) [F37r6]
  (repeat refine ⟨by first | omega | (intros; omega) | assumption, ?_⟩); refine hK _ ?_
  refine ⟨k + 1, ⟨by omega, by rw [hk2, hd, if_neg (by simp [hq])]⟩, by omega, ?_⟩
  simp [hw, wrap_nat k (by omega)]
 have hge : ¬ k < l.length := by simpa using hge
 refine AWp.exit ?_
 refine AWp.seq ?_
 refine AWp.regK [4] [true] F37r7 [] (by kernel_rfl) (by rw [hC]; rfl) fun K hK => ?_
 simp (maxSteps := 2000000) [F37r7]
 refine hK _ ?_
 repeat refine AWp.seq ?_
 refine AWp.ret ⟨.inr rfl, _, by simp [Tryz.results37] <;> rfl, ?_⟩
 refine .clos ?_ rfl
 rw [hk2, List.drop_eq_nil_of_le (by omega)]; rfl
theorem ContainsFuncP_ok (l : List PlanD) (hl : l.length ≤ 4194304) (f : FuncId) (caps : List AV) (hc : norefL caps = true) (p : PlanD → Bool) (hp : ∀ x ∈ l, Con Tryz.prog f (planX x :: caps) (bval (p x))) :
  Con Tryz.prog 24 [encPR l, .clo (.func f) caps] (bval (l.any p)) := by
 have h1 := IndexFuncP_ok l hl f caps hc p hp
 have h2 := fid_any p l 0
 refine Con.of_code Tryz.func24 (by kernel_rfl) rfl (by simp [Tryz.ntmps24]) fun C hC hM => ?_
 refine AWp.seq ?_
 refine AWp.regK [0,1] [true] F24r0 [] (by kernel_rfl) (by rw [hC]; rfl) fun K hK => ?_
 simp (maxSteps := 2000000) [F24r0]
 refine hK _ ?_
 refine AWp.seq ?_
 refine AWp.regK [4] [false,false,false,false,true] F24r1 [{ r := ival (fid p l 0) }] (by kernel_rfl) (by rw [hC]; rfl) fun K hK => ?_
 simp (maxSteps := 2000000) [F24r1]
 (repeat first | refine ⟨by first | kernel_rfl | (intros; omega) | assumption, ?_⟩ | refine ⟨by intros; exact callOK (by simpa using hc) h1, ?_⟩); refine hK _ ?_
 repeat refine AWp.seq ?_
 refine AWp.ret ⟨.inr rfl, _, by simp [Tryz.results24] <;> rfl, ?_⟩
 refine .clos ?_ rfl
 rw [← h2]; simp
theorem allEF_ok (g : FuncId) (caps : List AV) (p : ExprD → Bool) (e : ExprD) (hc : norefL caps = true) (h : Con Tryz.prog g (exprX e :: caps) (bval (p e))) : Con Tryz.prog 173 [exprX e, .elt 1 [[.clo (.func g) caps]] 0 0] (bval (!p e)) := by
 refine Con.of_code Tryz.func173 (by kernel_rfl) rfl (by simp [Tryz.ntmps173]) fun C hC hM => ?_
 refine AWp.seq ?_
 refine AWp.regK [1,2] [false,true] F173r0 [] (by kernel_rfl) (by rw [hC]; rfl) fun K hK => ?_
 simp (maxSteps := 2000000) [F173r0]
 refine hK _ ?_
 refine AWp.seq ?_
 refine AWp.regK [3] [false,false,false,false,true] F173r1 [{ r := bval (p e) }] (by kernel_rfl) (by rw [hC]; rfl) fun K hK => ?_
 simp (maxSteps := 2000000) [F173r1]
 (repeat first | refine ⟨by first | kernel_rfl | (intros; omega) | assumption, ?_⟩ | refine ⟨by intros; exact callOK (by simpa using hc) h, ?_⟩); refine hK _ ?_
 repeat refine AWp.seq ?_
 refine AWp.ret ⟨.inr rfl, _, by simp [Tryz.results173] <;> rfl, ?_⟩
 exact .closed rfl
theorem allE_ok (g : FuncId) (caps : List AV) (p : ExprD → Bool) (l : List ExprD) (hl : l.length ≤ 4194304) (hc : norefL caps = true) (h : ∀ e ∈ l, Con Tryz.prog g (exprX e :: caps) (bval (p e))) : Con Tryz.prog 138 [encER l, .clo (.func g) caps] (bval (l.all p)) := by
 have h1 := ContainsFuncE_ok l hl 173 [.elt 1 [[.clo (.func g) caps]] 0 0] rfl (fun e => !p e) (fun e he => allEF_ok g caps p e hc (h e he))
 refine Con.of_code Tryz.func138 (by kernel_rfl) rfl (by simp [Tryz.ntmps138]) fun C hC hM => ?_
 refine AWp.seq ?_
 refine AWp.regK [0,3] [false,true] F138r0 [] (by kernel_rfl) (by rw [hC]; rfl) fun K hK => ?_
 simp (maxSteps := 2000000) [F138r0]
 refine hK _ ?_
 refine AWp.seq ?_
 refine AWp.regK [4] [false,false,false,false,true] F138r1 [{ r := bval (l.any fun e => !p e),us := [3] }] (by kernel_rfl) (by rw [hC]; rfl) fun K hK => ?_
 simp (maxSteps := 2000000) [F138r1]
 (repeat first | refine ⟨by first | kernel_rfl | (intros; omega) | assumption, ?_⟩ | refine ⟨by intros; exact ⟨_, .cons (.closed rfl) (.cons (.clo (.cons (.ptr rfl (.cons (.closed (by simpa using hc)) .nil)) .nil)) .nil), h1⟩, ?_⟩); refine hK _ ?_
 repeat refine AWp.seq ?_
 refine AWp.ret ⟨.inr rfl, _, by simp [Tryz.results138] <;> rfl, ?_⟩
 refine .clos ?_ rfl
 simp [any_not]
theorem allEPF_ok (g : FuncId) (p : ExprD → Bool) (e : ExprD) (h : Con Tryz.prog g [exprX e] (bval (p e))) : Con Tryz.prog 173 [exprX e, .elt 1 [[.val (.func (.func g) #[] #[])]] 0 0] (bval (!p e)) := by
 refine Con.of_code Tryz.func173 (by kernel_rfl) rfl (by simp [Tryz.ntmps173]) fun C hC hM => ?_
 refine AWp.seq ?_
 refine AWp.regK [1,2] [false,true] F173r0 [] (by kernel_rfl) (by rw [hC]; rfl) fun K hK => ?_
 simp (maxSteps := 2000000) [F173r0]
 refine hK _ ?_
 refine AWp.seq ?_
 refine AWp.regK [3] [false,false,false,false,true] F173r1 [{ r := bval (p e) }] (by kernel_rfl) (by rw [hC]; rfl) fun K hK => ?_
 simp (maxSteps := 2000000) [F173r1]
 (repeat first | refine ⟨by first | kernel_rfl | (intros; omega) | assumption, ?_⟩ | refine ⟨by intros; exact callOK rfl h, ?_⟩); refine hK _ ?_
 repeat refine AWp.seq ?_
 refine AWp.ret ⟨.inr rfl, _, by simp [Tryz.results173] <;> rfl, ?_⟩
 exact .closed rfl
theorem allEP_ok (g : FuncId) (p : ExprD → Bool) (l : List ExprD) (hl : l.length ≤ 4194304) (h : ∀ e ∈ l, Con Tryz.prog g [exprX e] (bval (p e))) : Con Tryz.prog 138 [encER l, .val (.func (.func g) #[] #[])] (bval (l.all p)) := by
 have h1 := ContainsFuncE_ok l hl 173 [.elt 1 [[.val (.func (.func g) #[] #[])]] 0 0] rfl (fun e => !p e) (fun e he => allEPF_ok g p e (h e he))
 refine Con.of_code Tryz.func138 (by kernel_rfl) rfl (by simp [Tryz.ntmps138]) fun C hC hM => ?_
 refine AWp.seq ?_
 refine AWp.regK [0,3] [false,true] F138r0 [] (by kernel_rfl) (by rw [hC]; rfl) fun K hK => ?_
 simp (maxSteps := 2000000) [F138r0]
 refine hK _ ?_
 refine AWp.seq ?_
 refine AWp.regK [4] [false,false,false,false,true] F138r1 [{ r := bval (l.any fun e => !p e),us := [3] }] (by kernel_rfl) (by rw [hC]; rfl) fun K hK => ?_
 simp (maxSteps := 2000000) [F138r1]
 (repeat first | refine ⟨by first | kernel_rfl | (intros; omega) | assumption, ?_⟩ | refine ⟨by intros; exact ⟨_, .cons (.closed rfl) (.cons (.clo (.cons (.ptr rfl (.cons (.closed rfl) .nil)) .nil)) .nil), h1⟩, ?_⟩); refine hK _ ?_
 repeat refine AWp.seq ?_
 refine AWp.ret ⟨.inr rfl, _, by simp [Tryz.results138] <;> rfl, ?_⟩
 refine .clos ?_ rfl
 simp [any_not]
theorem deepestE_ok (g : FuncId) (d : ExprD → Nat) (l : List ExprD) (hl : l.length ≤ 4194304) (hd : ∀ e ∈ l, d e ≤ 4611686018427387904) (h : ∀ e ∈ l, Con Tryz.prog g [exprX e] (ival (d e))) :
  Con Tryz.prog 98 [encER l, .val (.func (.func g) #[] #[])] (ival (maxD d l)) := by
 refine Con.of_code Tryz.func98 (by kernel_rfl) rfl (by simp [Tryz.ntmps98]) fun C hC hM => ?_
 refine AWp.seq ?_
 refine AWp.regK [0,1] [true] F98r0 [] (by kernel_rfl) (by rw [hC]; rfl) fun K hK => ?_
 simp (maxSteps := 2000000) [F98r0]
 refine hK _ ?_
 refine AWp.seq ?_
 refine AWp.regK [0,1,5] [true] F98r1 [] (by kernel_rfl) (by rw [hC]; rfl) fun K hK => ?_
 simp (maxSteps := 2000000) [F98r1]
 refine hK _ ?_
 refine AWp.seq ?_
 refine AWp.seq ?_
 refine AWp.regK [1,5,8,9,10] [] F98r2 [] (by kernel_rfl) (by rw [hC]; rfl) fun K hK => ?_
 simp (maxSteps := 2000000) [F98r2]
 refine hK _ ?_
 refine AWp.block ?_
 refine AWp.loopG (fun k : Nat => { tm := [(1, .val (.func (.func g) #[] #[])), (5, ival (maxD d (l.take k))), (8, encER l), (9, ival l.length), (10, ival k)], hp := [] }) (fun k => k ≤ l.length) (fun k => l.length - k) 0 (by omega) (by simp [maxD]) (fun k hk => ?_)
 refine AWp.seq ?_
 refine AWp.regK [1,5,8,9,10,11] [] F98r3 [] (by kernel_rfl) (by rw [hC]; rfl) fun K hK => ?_
 simp (maxSteps := 2000000) [F98r3]
 refine hK _ ?_
 refine AWp.seq ?_
 refine AWp.cond _ (by rfl) (fun hlt => ?_) (fun hge => ?_)
 ·skip
  have hlt : k < l.length := by simpa using hlt
  have hc := h l[k] (List.getElem_mem hlt)
  refine AWp.skip ?_
  refine AWp.seq ?_
  refine AWp.block ?_
  refine AWp.seq ?_
  refine AWp.regK [1,5,7,8,9,10] [false,false,false,true] F98r4 [] (by kernel_rfl) (by rw [hC]; rfl) fun K hK => ?_
  simp (maxSteps := 2000000) [F98r4, hlt]
  (repeat refine ⟨by first | omega | (intros; omega) | assumption, ?_⟩); refine hK _ ?_
  refine AWp.regK [1,5,8,9,10] [false,false,false,false,false,true] F98r5 [{ r := ival (d l[k]) }] (by kernel_rfl) (by rw [hC]; rfl) fun K hK => ?_
  simp (maxSteps := 2000000) [F98r5, hlt]
  (repeat first | refine ⟨by first | kernel_rfl | (intros; omega) | assumption, ?_⟩ | refine ⟨by intros; exact callOK rfl hc, ?_⟩); refine hK _ ?_
  refine AWp.regK [1,5,8,9,10] [] F98r6 [] (by kernel_rfl) (by rw [hC]; rfl) fun K hK => ?_
  simp (maxSteps := 2000000) [F98r6]
  (repeat refine ⟨by first | omega | (intros; omega) | assumption, ?_⟩); refine hK _ ?_
  refine ⟨k + 1, by omega, by omega, ?_⟩
  have hm := maxD_take d l k hlt
  generalize maxD d (List.take k l) = a at hm ⊢
  simp [wrap_nat k (by omega), hm]
  split <;> omega
 have hge : ¬ k < l.length := by simpa using hge
 refine AWp.exit ?_
 refine AWp.seq ?_
 refine AWp.regK [4] [true,true] F98r7 [] (by kernel_rfl) (by rw [hC]; rfl) fun K hK => ?_
 simp (maxSteps := 2000000) [F98r7]
 refine hK _ ?_
 repeat refine AWp.seq ?_
 refine AWp.ret ⟨.inr rfl, _, by simp [Tryz.results98] <;> rfl, ?_⟩
 refine .clos ?_ rfl
 rw [List.take_of_length_le (by omega)]; rfl
