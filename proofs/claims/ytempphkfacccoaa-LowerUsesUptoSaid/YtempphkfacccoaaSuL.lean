/- The law LowerUses. -/
import Derived.Test.YtempphkfacccoaaSuB
import Derived.Test.YtempphkfacccoaaSuSq
import Derived.Test.YtempphkfacccoaaSuR
set_option linter.unusedSimpArgs false
set_option linter.unusedVariables false
open Go Go.Aw Go.Proofs
namespace Go.Sl
-- function 6: corollary/corollarylaw20.LowerUses: 16 slots; results ['(Go.ResultVar.tmp 2)']
def F6r0 : List ROp := [{ dst := some 1, op := .box 66 (.tmp 0), after := [], guard := none },
  { dst := some 2, op := .copy true (.const (.bool false)), after := [], guard := none }]
def F6r1 : List ROp := [{ dst := some 3, op := .load 6 true false (.tmp 1), after := [], guard := none },
  { dst := some 4, op := .call (.func 18) [.tmp 3, .const (.int .i64 300)], after := [0], guard := none },
  { dst := some 5, op := .bin .geq (.tmp 4) (.const (.int .i64 300)), after := [1], guard := none }]
def F6r2 : List ROp := [{ dst := some 6, op := .call (.func 19) [], after := [], guard := none },
  { dst := some 2, op := .copy true (.tmp 6), after := [0, 0, 0], guard := none }]
def F6r3 : List ROp := [{ dst := some 7, op := .load 6 true false (.tmp 1), after := [], guard := none },
  { dst := some 8, op := .call (.func 22) [.tmp 7], after := [0], guard := none },
  { dst := some 9, op := .call (.func 21) [.tmp 8], after := [1, 1], guard := none },
  { dst := some 10, op := .load 6 true false (.tmp 1), after := [], guard := none },
  { dst := some 11, op := .call (.func 23) [.tmp 10], after := [3, 2], guard := none },
  { dst := some 12, op := .call (.func 20) [.tmp 9, .tmp 11], after := [2, 4, 4], guard := none },
  { dst := some 13, op := .copy false (.tmp 12), after := [5, 5], guard := none },
  { dst := some 14, op := .call (.func 19) [], after := [6, 6], guard := some (13, true) },
  { dst := some 15, op := .pick (.tmp 13) (.tmp 14) (.const (.bool false)), after := [6, 7], guard := none },
  { dst := some 2, op := .copy true (.tmp 15), after := [8, 7, 0, 1, 2, 3, 4, 5, 6, 7, 8], guard := none }]
theorem LowerUses_con (p : PlanD) (hp : psize p ≤ 2097152) : Con Try.prog 6 [encPX p] (bval true) := by
  have haw : Con Try.prog 19 [] (bval true) := awakeP_ok
  have h1 := nodes_ok _ p 300 (Nat.lt_succ_self _) (by omega) (by omega) (by omega)
  have h2 := given_ok _ p (Nat.lt_succ_self _) (by omega)
  have h3 := UsesP_ok p (by omega)
  have h4 := Uses_ok p (by omega)
  have hu := usesP_len [] p
  rw [cmp_srt] at h3
  rw [usesP] at h4 hu
  generalize (names p).foldl addS [] = us at *
  have h5 := SameTexts_ok us us (by simp at hu; omega) (by simp at hu; omega)
  rw [sameL_refl] at h5
  have hnd : (ndN p 300 : Int) ≤ 300 := by simp only [ndN]; omega
  have hx : encPX p = .agg [uval p.op, sval p.rel, sval p.name, .rd 9 (p.args.map encE), .rd 1 (texts p.aggs), .rd 6 (p.ins.map encP)] := by simp only [encPX, encP_eq]
  refine Con.of_code Try.func6 (by kernel_rfl) rfl (by simp [Try.ntmps6]) fun C hC hM => ?_
  rw [hx] at h1 h2 h3 h4
  refine AWp.seq ?_
  refine AWp.reg [false, true] F6r0 [] (by kernel_rfl) (by rw [hC]; rfl) fun K hK => ?_
  simp [F6r0, hx]
  first | refine hK _ ?_ | refine ⟨by omega, hK _ ?_⟩ | refine ⟨by omega, by omega, hK _ ?_⟩ | refine ⟨by omega, by omega, by omega, hK _ ?_⟩ | refine ⟨by omega, by omega, by omega, by omega, hK _ ?_⟩
  refine AWp.seq ?_
  refine AWp.seq ?_
  refine AWp.reg [] F6r1 [{ r := ival (ndN p 300) }] (by kernel_rfl) (by rw [hC]; rfl) fun K hK => ?_
  simp [F6r1]
  refine ⟨callOK rfl h1, hK _ ?_⟩
  by_cases hn : 300 ≤ ndN p 300
  · have hn' : (300 : Int) ≤ (ndN p 300 : Int) := by omega
    refine AWp.cond true (by simp [hn']) (fun _ => ?_) (fun he => by cases he)
    refine AWp.seq ?_
    refine AWp.reg [false, true] F6r2 [{ r := bval true }] (by kernel_rfl) (by rw [hC]; rfl) fun K hK => ?_
    simp [F6r2]
    refine ⟨callOK rfl haw, hK _ ?_⟩
    repeat refine AWp.seq ?_
    refine AWp.ret ⟨.inr rfl, _, by simp [Try.results6] <;> rfl, ?_⟩
    exact .closed rfl
  · have hn' : ¬ (300 : Int) ≤ (ndN p 300 : Int) := by omega
    refine AWp.cond false (by simp [hn']) (fun he => by cases he) (fun _ => ?_)
    refine AWp.skip ?_
    refine AWp.seq ?_
    refine AWp.regD ops_mixed [false, false, false, false, false, false, false, false, false, true] F6r3 [{ r := .agg [uval p.op, sval p.rel, sval p.name, .rd 9 (p.args.map encE), .rd 1 (texts p.aggs), .rd 6 (p.ins.map encP)] }, { r := .rd 1 (texts us) }, { r := .rd 1 (texts us) }, { r := bval true }, { r := bval true }] (by kernel_rfl) (by rw [hC]; rfl) rfl (fun K hK => ?_) (by simp [F6r3] <;> rfl)
    simp [F6r3]
    refine ⟨callOK rfl h2, callOK rfl h3, callOK rfl h4, callOK rfl h5, callOK rfl haw, hK _ ?_⟩
    repeat refine AWp.seq ?_
    refine AWp.ret ⟨.inr rfl, _, by simp [Try.results6] <;> rfl, ?_⟩
    exact .closed rfl
end Go.Sl
