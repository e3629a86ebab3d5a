/- The strata of any program, by relations and by rules, are what the document says, or the refusal, at its place. Condition: what is read is of bulk at most 1048576 (the given form Upto). -/
import Derived.Test.YtldaibijdhjpjaaStMk
import Derived.Test.YtldaibijdhjpjaaStOp
import Derived.WalkKit
import Derived.ProofKit
import Derived.OpenShut
import Derived.JoinedCond
set_option linter.unusedSimpArgs false
set_option linter.unusedVariables false
namespace Go.Proofs.Ytldaibijdhjpjaa.makes
open Go.ChangeShapes Go.WideShapes Go.ChangeAt Go.RowKit Go.Aw
theorem own : ownKnob Try.prog.godebug = none := by kernel_rfl
theorem laidOut : laidOutB Try.prog = true := by kernel_rfl
theorem rowed : mapsRowed Try.prog = true := by kernel_rfl
theorem full : slicesFull Try.prog = true := by kernel_rfl
theorem small : (([28] : List TypeId).all fun t => decide (t < Try.prog.types.size)) = true := by kernel_rfl
set_option maxRecDepth 100000 in
theorem contract (H : Type) (enc : TypeId × Value → H) (W : World) (base : Nat) (args : Array Value) (ds gs : List (DataW H)) (before : List MemPlace)
    (hval : ∀ (j : Nat) t v, Try.f4.params[j]? = some t → args[j]? = some v → Value.okWide Try.prog W .any base t v)
    (hW : DataW.Whole enc Try.prog Try.f4.params.toList Rows.strataMakesSpec.vars false W args.toList ds gs before) (hk : Rows.uptoSmall H (ds ++ gs) = true) :
    Calls Try.prog 4 args W fun e W' => ∃ v, e = .returned v ∧ Rows.strataMakesSpec.post enc Try.prog Try.f4 false true false false W args v W' := by
  have hb : (ds.map Rows.uptoBulk).sum ≤ 1048576 := by
    have h : Rows.uptoBulkAll (ds ++ gs) ≤ 1048576 := of_decide_eq_true hk
    rw [St.bulk_all, List.map_append, List.sum_append_nat] at h
    omega
  refine law_of_con (P := Try.prog) (fid := 4) (f := Try.f4) (s := Rows.strataMakesSpec) (bulk := Rows.uptoBulk) (tb := 4) rfl (fun ds hl => ?_) (by kernel_rfl) Try.underlying4 laidOut rowed full (fun t ht => by rw [Try.params4] at ht; exact of_decide_eq_true (List.all_eq_true.1 small t ht)) W base args ds gs before hval hW (by rw [Try.params4]; exact St.ops_mod (St.bulk_ok H)) fun x hx => ?_
  · rw [Try.params4] at hl
    match ds, hl with
    | [d0], _ => rfl
  · obtain ⟨b1, b2, h1, _, h3⟩ := hx
    exact St.StrataMakes_con x.1 (h1 (by omega))
set_option maxRecDepth 100000 in
theorem lifted (os : Os) (started : os.Started) (H : Type) (enc : TypeId × Value → H) (F : Stop.Interp) :
    ReturnsInHanded {} Try.checked os 4 .any ((Rows.OpenSpec.upto Rows.strataMakesSpec).pre6 enc Try.prog Try.f4 Rows.strataMakesUptoRow.domain false) (((Rows.OpenSpec.upto Rows.strataMakesSpec).at F).post enc Try.prog Try.f4 false true false false) := by
  refine returnsInHanded_of_cond (C := Try.checked) (s := Rows.OpenSpec.upto Rows.strataMakesSpec) (k := Rows.uptoSmall) rfl own started (by kernel_rfl) Try.func4
    (OpenSpec.witness (enc := enc) (C := Try.checked) (s := Rows.OpenSpec.upto Rows.strataMakesSpec) (k := Rows.uptoSmall) rfl false ⟨#[], #[.agg #[.string .empty, .slice none 0 0, .slice none 0 0, .slice none 0 0, .slice none 0 0, .slice none 0 0]], []⟩ 4 (by kernel_rfl) (by kernel_rfl) (by kernel_rfl)
      (x := ([.agg [.lit (.string []), .nil, .nil, .nil, .nil, .nil]], [], [])) (by kernel_rfl) rfl (by kernel_rfl)) ?_
  intro W base args ds gs before hval hW _ hk _
  exact contract H enc W base args ds gs before hval hW hk
theorem proved : Rows.StrataMakesUptoSaid :=
  OpenClaim.holds_of_cond 4 Try.f4 rfl rfl rfl rfl rfl rfl rfl ⟨rfl, rfl, rfl, rfl, rfl⟩ rfl rfl rfl rfl rfl (by kernel_rfl) Try.func4 (by kernel_rfl)
    (of_decide_eq_true (by kernel_rfl)) (by unfold Func.isWrapper; first | (rw [if_pos (by decide +kernel)]; kernel_rfl) | (rw [if_neg (by decide +kernel)]; exact ⟨rfl, rfl⟩))
    (fun os started H enc _ F => lifted os started H enc F)
end Go.Proofs.Ytldaibijdhjpjaa.makes
