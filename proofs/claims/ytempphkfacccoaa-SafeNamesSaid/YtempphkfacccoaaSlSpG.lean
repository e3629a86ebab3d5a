/- The closed data of the first example. -/
import Derived.Test.YtempphkfacccoaaSlSpF
set_option linter.unusedSimpArgs false
set_option linter.unusedVariables false
namespace Go.Sl
open Go.Aw
def tX : ByteArray := ⟨#[88]⟩
def tY : ByteArray := ⟨#[89]⟩
def tP : ByteArray := ⟨#[112]⟩
def tQ : ByteArray := ⟨#[113]⟩
def tZ : ByteArray := ⟨#[122]⟩
def tPlus : ByteArray := ⟨#[43]⟩
def noV : Opq := ⟨.slice none 0 0, rfl⟩
def awX : ExprD := .mk 2 0 0 tX 0 0 ByteArray.empty noV []
def awOne : ExprD := .mk 1 0 0 ByteArray.empty 2 1 ByteArray.empty noV []
def awSum : ExprD := .mk 6 0 0 tPlus 0 0 ByteArray.empty noV [awX, awOne]
def aw0 : LitD := ⟨2, 0, 0, tQ, [awX]⟩
def aw1 : LitD := ⟨4, 0, 0, tY, [awSum]⟩
def aw2 : LitD := ⟨1, 0, 0, tP, [awX]⟩
def awL : List LitD := [aw0, aw1, aw2]
def awL2 : List LitD := [aw0, aw1]
def awR : List RuleD := [⟨0, 0, tP, [], [], awL⟩, ⟨0, 0, tQ, [], [], awL2⟩, ⟨0, 0, tZ, [], [], awL⟩]
def awM : ModD := ⟨ByteArray.empty, noV, noV, noV, awR, []⟩
theorem aw_order : orderE awL = ([2, 0, 1], [tX, tY], 0, 0, 0) := by kernel_rfl
theorem aw_order2 : orderE awL2 = ([], [], 0, 0, 71) := by kernel_rfl
theorem aw_z (a : ByteArray) : hasT (reachL awR a) tZ = false := by
  cases e : hasT (reachL awR a) tZ with
  | false => rfl
  | true =>
    obtain ⟨r, h1, x, h2, h3, h4⟩ := Reach.target (mem_reachL.1 ((hasT_iff _ _).1 e))
    exfalso
    have key : awR.all (fun r => r.body.all fun x => !(related x && decide (x.rel = tZ))) = true := by kernel_rfl
    have := List.all_eq_true.1 (List.all_eq_true.1 key r h1) x h2
    rw [h3, h4] at this
    simp at this
theorem aw_rounds : roundsE awR = [true, true, false] := by
  have h1 : awL.any (backL awR ⟨0, 0, tP, [], [], awL⟩) = true := by
    have : backL awR ⟨0, 0, tP, [], [], awL⟩ aw2 = true := by simp [backL, related, aw2]
    exact List.any_eq_true.2 ⟨aw2, by simp [awL], this⟩
  have h2 : awL2.any (backL awR ⟨0, 0, tQ, [], [], awL2⟩) = true := by
    have : backL awR ⟨0, 0, tQ, [], [], awL2⟩ aw0 = true := by simp [backL, related, aw0]
    exact List.any_eq_true.2 ⟨aw0, by simp [awL2], this⟩
  have h3 : awL.any (backL awR ⟨0, 0, tZ, [], [], awL⟩) = false := by
    have k0 : backL awR ⟨0, 0, tZ, [], [], awL⟩ aw0 = false := by
      have : decide (aw0.rel = tZ) = false := by kernel_rfl
      simp only [backL, aw_z, this, Bool.or_false, Bool.and_false]
    have k1 : backL awR ⟨0, 0, tZ, [], [], awL⟩ aw1 = false := by simp [backL, related, aw1]
    have k2 : backL awR ⟨0, 0, tZ, [], [], awL⟩ aw2 = false := by
      have : decide (aw2.rel = tZ) = false := by kernel_rfl
      simp only [backL, aw_z, this, Bool.or_false, Bool.and_false]
    show (backL awR ⟨0, 0, tZ, [], [], awL⟩ aw0 || (backL awR ⟨0, 0, tZ, [], [], awL⟩ aw1 || (backL awR ⟨0, 0, tZ, [], [], awL⟩ aw2 || false))) = false
    rw [k0, k1, k2]; rfl
  simp only [roundsE, awR, List.map_cons, List.map_nil] at h1 h2 h3 ⊢
  rw [h1, h2, h3]
end Go.Sl
