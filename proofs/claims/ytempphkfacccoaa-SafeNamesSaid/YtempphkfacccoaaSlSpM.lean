/- The closed examples. -/
import Derived.Test.YtempphkfacccoaaSlSpG
import Derived.Test.YtempphkfacccoaaSlSpI
set_option linter.unusedSimpArgs false
set_option linter.unusedVariables false
namespace Go.Sl
open Go.Aw
def exV (s : ByteArray) : ExprD := .mk 2 7 0 s 0 0 ByteArray.empty noV []
def exOne : ExprD := .mk 1 0 0 ByteArray.empty 2 1 ByteArray.empty noV []
def exPlus (e : ExprD) : ExprD := .mk 6 9 0 ⟨#[43]⟩ 0 0 ByteArray.empty noV [e, exOne]
def litA (s : ByteArray) (l : List ExprD) : LitD := ⟨1, 0, 0, s, l⟩
def modR (s : ByteArray) (h : List ExprD) (l : List LitD) : ModD := ⟨ByteArray.empty, noV, noV, noV, [⟨3, 0, s, h, [], l⟩], []⟩
end Go.Sl
