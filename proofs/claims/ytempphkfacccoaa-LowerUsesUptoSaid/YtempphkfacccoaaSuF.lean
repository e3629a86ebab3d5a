/- The relations that any plan uses are what the document says. Condition: what is read is of bulk at most 1048576 (the given form Upto). -/
import Derived.Test.YtempphkfacccoaaSuL
import Derived.Test.YtempphkfacccoaaSuOp
import Derived.WalkKit
import Derived.ProofKit
import Derived.OpenShut
import Derived.JoinedCond
set_option linter.unusedSimpArgs false
set_option linter.unusedVariables false
namespace Go.Proofs.Ytempphkfacccoaa.usesLaw
open Go.ChangeShapes Go.WideShapes Go.ChangeAt Go.RowKit Go.Aw
theorem own : ownKnob Try.prog.godebug = none := by kernel_rfl
theorem laidOut : laidOutB Try.prog = true := by kernel_rfl
theorem rowed : mapsRowed Try.prog = true := by kernel_rfl
theorem full : slicesFull Try.prog = true := by kernel_rfl
theorem small : (([66] : List TypeId).all fun t => decide (t < Try.prog.types.size)) = true := by kernel_rfl
set_option maxRecDepth 100000 in
theorem contract (H : Type) (enc : TypeId × Value → H) (W : World) (base : Nat) (args : Array Value) (ds gs : List (DataW H)) (before : List MemPlace)
    (hval : ∀ (j : Nat) t v, Try.f6.params[j]? = some t → args[j]? = some v → Value.okWide Try.prog W .any base t v)
    (hW : DataW.Whole enc Try.prog Try.f6.params.toList Rows.lowerUsesSpec.vars false W args.toList ds gs before) (hk : Rows.uptoSmall H (ds ++ gs) = true) :
    Calls Try.prog 6 args W fun e W' => ∃ v, e = .returned v ∧ Rows.lowerUsesSpec.post enc Try.prog Try.f6 false true false false W args v W' := by
  have hb : (ds.map Rows.uptoBulk).sum ≤ 1048576 := by
    have h : Rows.uptoBulkAll (ds ++ gs) ≤ 1048576 := of_decide_eq_true hk
    rw [Sl.bulk_all, List.map_append, List.sum_append_nat] at h
    omega
  refine law_of_con (P := Try.prog) (fid := 6) (f := Try.f6) (s := Rows.lowerUsesSpec) (bulk := Rows.uptoBulk) (tb := 4) rfl (fun ds hl => ?_) (by kernel_rfl) Try.underlying4 laidOut rowed full (fun t ht => by rw [Try.params6] at ht; exact of_decide_eq_true (List.all_eq_true.1 small t ht)) W base args ds gs before hval hW (by rw [Try.params6]; exact Sl.ops_plan (Sl.bulk_ok H)) fun x hx => ?_
  · rw [Try.params6] at hl
    match ds, hl with
    | [d0], _ => rfl
  · obtain ⟨b1, b2, h1, _, e1⟩ := hx
    exact Sl.LowerUses_con x.1 (by omega)
set_option maxRecDepth 100000 in
theorem lifted (os : Os) (started : os.Started) (H : Type) (enc : TypeId × Value → H) (F : Stop.Interp) :
    ReturnsInHanded {} Try.checked os 6 .any ((Rows.OpenSpec.upto Rows.lowerUsesSpec).pre6 enc Try.prog Try.f6 Rows.lowerUsesUptoRow.domain false) (((Rows.OpenSpec.upto Rows.lowerUsesSpec).at F).post enc Try.prog Try.f6 false true false false) := by
  refine returnsInHanded_of_cond (C := Try.checked) (s := Rows.OpenSpec.upto Rows.lowerUsesSpec) (k := Rows.uptoSmall) rfl own started (by kernel_rfl) Try.func6
    (OpenSpec.witness (enc := enc) (C := Try.checked) (s := Rows.OpenSpec.upto Rows.lowerUsesSpec) (k := Rows.uptoSmall) rfl false ⟨#[], #[.agg #[.int .u8 0, .string .empty, .string .empty, .slice none 0 0, .slice none 0 0, .slice none 0 0]], []⟩ 8 (by kernel_rfl) (by kernel_rfl) (by kernel_rfl)
      (x := ([.agg [.lit (.int .u8 0), .lit (.string []), .lit (.string []), .nil, .nil, .nil]], [], [])) (by kernel_rfl) rfl (by kernel_rfl)) ?_
  intro W base args ds gs before hval hW _ hk _
  exact contract H enc W base args ds gs before hval hW hk
theorem proved : Rows.LowerUsesUptoSaid :=
  OpenClaim.holds_of_cond 6 Try.f6 rfl rfl rfl rfl rfl rfl rfl ⟨rfl, rfl, rfl, rfl, rfl⟩ rfl rfl rfl rfl rfl (by kernel_rfl) Try.func6 (by kernel_rfl)
    (of_decide_eq_true (by kernel_rfl)) (by unfold Func.isWrapper; first | (rw [if_pos (by decide +kernel)]; kernel_rfl) | (rw [if_neg (by decide +kernel)]; exact ⟨rfl, rfl⟩))
    (fun os started H enc _ F => lifted os started H enc F)
end Go.Proofs.Ytempphkfacccoaa.usesLaw
