/- The closed examples: what the document says of each. -/
import Derived.Test.YtempphkfacccoaaSlSpM
set_option linter.unusedSimpArgs false
set_option linter.unusedVariables false
namespace Go.Sl
open Go.Aw
def tR : ByteArray := ⟨#[114]⟩
def tPath : ByteArray := ⟨#[112, 97, 116, 104]⟩
def tEdge : ByteArray := ⟨#[101, 100, 103, 101]⟩
def tA : ByteArray := ⟨#[97]⟩
def tB : ByteArray := ⟨#[98]⟩
def tC : ByteArray := ⟨#[99]⟩
def tD : ByteArray := ⟨#[100]⟩
def tSum : ByteArray := ⟨#[115, 117, 109]⟩
def eX : ExprD := exV tX
def eY : ExprD := exV tY
def eZ : ExprD := exV tZ'
where tZ' : ByteArray := ⟨#[90]⟩
def rul (s : ByteArray) (h : List ExprD) (g : List ByteArray) (l : List LitD) : RuleD := ⟨0, 0, s, h, g, l⟩
def mdl (rs : List RuleD) (ns : List NevD) : ModD := ⟨ByteArray.empty, noV, noV, noV, rs, ns⟩
def m1 : ModD := modR tR [eX, eZ] [litA tP [eX]]
def m2 : ModD := modR tPath [eX, exPlus eZ] [litA tPath [eX, eZ]]
def m3 : ModD := modR tPath [eX, exPlus eZ] [litA tEdge [eX, eZ]]
def m4 : ModD := modR tPath [eY] [litA tPath [eX], ⟨4, 0, 0, tY, [eX]⟩]
def m5 : ModD := modR tPath [eX, exOne] [litA tPath [exPlus eX, exOne]]
def r6 : List RuleD := [rul tA [exPlus eX] [] [litA tB [eX]], rul tB [eX] [] [litA tC [eX], ⟨2, 0, 0, tA, [eX]⟩]]
def r7 : List RuleD := [rul tA [exPlus eX] [] [litA tB [eX]], rul tB [eX] [] [litA tC [eX]], rul tC [eX] [] [litA tD [eX]], rul tD [eX] [] [litA tA [eX]]]
def m6 : ModD := mdl r6 []
def m7 : ModD := mdl r7 []
def m8 : ModD := mdl [rul tA [exPlus eX] [tSum] [litA tA [eX]]] []
def m9 : ModD := mdl [] [⟨0, 0, ByteArray.empty, [⟨2, 5, 0, tQ, [eX]⟩]⟩]
def tab : List (ModD × Int × Int) := [(m1, 3, 71), (m2, 9, 72), (m3, 0, 0), (m4, 7, 72), (m5, 0, 0), (m6, 9, 72), (m7, 9, 72), (m8, 0, 0), (m9, 5, 71)]
def rowT (x : ModD × Int × Int) : List AV := modC x.1 ++ [ival x.2.1, ival x.2.2]
theorem back_same {rules : List RuleD} {r : RuleD} {x : LitD} (h : related x = true) (e : x.rel = r.rel) : backL rules r x = true := by
  simp [backL, h, e]
theorem back_reach {rules : List RuleD} {r : RuleD} {x : LitD} (h : related x = true) (e : Reach rules x.rel r.rel) : backL rules r x = true := by
  simp [backL, h, (hasT_iff _ _).2 (mem_reachL.2 e)]
theorem back_no {rules : List RuleD} {r : RuleD} {x : LitD} (h : hasT (onOf rules).keys x.rel = false) (e : decide (x.rel = r.rel) = false) : backL rules r x = false := by
  simp [backL, reach_none h, e]
theorem check_rule {m : ModD} {p : Int × Int × Int} (h : m.rules.findSome? chkRule = some p) : checkE m = p := by unfold checkE; rw [h]
theorem check_nev {m : ModD} {p : Int × Int × Int} (h0 : m.rules.findSome? chkRule = none) (h : m.nevers.findSome? chkNev = some p) : checkE m = p := by unfold checkE; rw [h0, h]
theorem check_grow {m : ModD} {p : Int × Int × Int} (h0 : m.rules.findSome? chkRule = none) (h1 : m.nevers.findSome? chkNev = none) {r : RuleD} {rs : List RuleD} (hr : m.rules = r :: rs) (h2 : r.body.any (backL m.rules r) = true) (h : growFrom r r.args 0 = some p) : checkE m = p := by
  unfold checkE
  rw [h0, h1]
  simp only
  have : m.rules.findSome? (chkGrow m.rules) = some p := by
    conv => lhs; rw [hr]
    rw [List.findSome?_cons, ← hr, chkGrow, if_pos h2, h]
  rw [this]
theorem check_fine {m : ModD} (h0 : m.rules.findSome? chkRule = none) (h1 : m.nevers.findSome? chkNev = none) {r : RuleD} (hr : m.rules = [r]) (h2 : r.body.any (backL m.rules r) = false ∨ growFrom r r.args 0 = none) : checkE m = (0, 0, 0) := by
  unfold checkE
  rw [h0, h1]
  simp only
  have : m.rules.findSome? (chkGrow m.rules) = none := by
    conv => lhs; rw [hr]
    rw [List.findSome?_cons, ← hr, chkGrow]
    rcases h2 with h2 | h2
    · rw [if_neg (by rw [h2]; simp)]; rfl
    · rw [h2, ite_self]; rfl
  rw [this]
theorem tab_ok : ∀ x ∈ tab, ModOK x.1 ∧ ∃ c, checkE x.1 = (x.2.1, c, x.2.2) := by
  have ok : ∀ m : ModD, (decide (m.rules.length ≤ 900) && decide (m.nevers.length ≤ 4194304) && m.rules.all (fun r => decide (r.body.length ≤ 1048576) && decide (wts r.body ≤ 4194304) && decide (sizes r.args ≤ 4194303)) && m.nevers.all (fun n => decide (wts n.body ≤ 4194304))) = true → ModOK m := by
    intro m h
    simp only [Bool.and_eq_true, decide_eq_true_eq, List.all_eq_true] at h
    exact ⟨h.1.1.1, fun r hr => (h.1.2 r hr).1.1, fun r hr => (h.1.2 r hr).1.2, fun r hr => (h.1.2 r hr).2, h.1.1.2, fun n hn => h.2 n hn⟩
  intro x hx
  refine ⟨ok _ ?_, ?_⟩
  · have : tab.all (fun x => decide (x.1.rules.length ≤ 900) && decide (x.1.nevers.length ≤ 4194304) && x.1.rules.all (fun r => decide (r.body.length ≤ 1048576) && decide (wts r.body ≤ 4194304) && decide (sizes r.args ≤ 4194303)) && x.1.nevers.all (fun n => decide (wts n.body ≤ 4194304))) = true := by kernel_rfl
    exact List.all_eq_true.1 this x hx
  · simp only [tab, List.mem_cons, List.not_mem_nil, or_false] at hx
    rcases hx with rfl | rfl | rfl | rfl | rfl | rfl | rfl | rfl | rfl
    · exact ⟨0, check_rule (by kernel_rfl)⟩
    · exact ⟨0, check_grow (by kernel_rfl) (by kernel_rfl) rfl (List.any_eq_true.2 ⟨litA tPath [eX, eZ], .head _, back_same rfl rfl⟩) (by kernel_rfl)⟩
    · exact ⟨0, check_fine (by kernel_rfl) (by kernel_rfl) rfl (.inl (by
        show (backL m3.rules _ (litA tEdge [eX, eZ]) || false) = false
        rw [Bool.or_false]
        exact back_no (by kernel_rfl) (by kernel_rfl)))⟩
    · exact ⟨0, check_grow (by kernel_rfl) (by kernel_rfl) rfl (List.any_eq_true.2 ⟨litA tPath [eX], .head _, back_same rfl rfl⟩) (by kernel_rfl)⟩
    · exact ⟨0, check_fine (by kernel_rfl) (by kernel_rfl) rfl (.inr (by kernel_rfl))⟩
    · exact ⟨0, check_grow (by kernel_rfl) (by kernel_rfl) rfl (List.any_eq_true.2 ⟨litA tB [eX], .head _, back_reach rfl (.one ⟨rul tB [eX] [] [litA tC [eX], ⟨2, 0, 0, tA, [eX]⟩], .tail _ (.head _), rfl, ⟨2, 0, 0, tA, [eX]⟩, .tail _ (.head _), rfl, rfl⟩)⟩) (by kernel_rfl)⟩
    · refine ⟨0, check_grow (by kernel_rfl) (by kernel_rfl) rfl (List.any_eq_true.2 ⟨litA tB [eX], .head _, back_reach rfl ?_⟩) (by kernel_rfl)⟩
      have h1 : Via m7.rules (fun _ => True) tB tC := .one ⟨rul tB [eX] [] [litA tC [eX]], (.tail _ (.head _)), rfl, litA tC [eX], .head _, rfl, rfl⟩
      have h2 : Via m7.rules (fun _ => True) tC tD := .one ⟨rul tC [eX] [] [litA tD [eX]], .tail _ (.tail _ (.head _)), rfl, litA tD [eX], .head _, rfl, rfl⟩
      have h3 : Via m7.rules (fun _ => True) tD tA := .one ⟨rul tD [eX] [] [litA tA [eX]], .tail _ (.tail _ (.tail _ (.head _))), rfl, litA tA [eX], .head _, rfl, rfl⟩
      exact .trans h1 trivial (.trans h2 trivial h3)
    · exact ⟨0, check_fine (by kernel_rfl) (by kernel_rfl) rfl (.inr (by kernel_rfl))⟩
    · exact ⟨0, check_nev (by kernel_rfl) (by kernel_rfl)⟩
theorem order_circle : orderE [⟨4, 2, 0, tX, [eY]⟩, ⟨4, 0, 0, tY, [eX]⟩] = ([], [], 2, 0, 71) := by kernel_rfl
theorem order_nil : orderE [] = ([], [], 0, 0, 0) := by kernel_rfl
end Go.Sl
