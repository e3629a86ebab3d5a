/- The bytes of any command and any reply are the document's, or the refusal; what was handed in stands. Condition: what is read is of bulk at most 1048576 (the given form Upto, its tied card). -/
import Derived.Test.YtmikljncdgfjpaaGreatDoorSeO
import Derived.Test.YtmikljncdgfjpaaGreatDoorSeOp
import Derived.Test.YtmikljncdgfjpaaGreatDoorCards
import Derived.Test.YtmikljncdgfjpaaGreatDoorTie
import Derived.WalkKit
import Derived.ProofKit
import Derived.OpenShut
import Derived.JoinedCond
import Derived.Deep.DeepHandedRow
import Derived.Lib.LaidTab
set_option linter.unusedSimpArgs false
set_option linter.unusedVariables false
namespace Go.Proofs.YtmikljncdgfjpaaGreatDoor.writesLaw
open Go.ChangeShapes Go.WideShapes Go.ChangeAt Go.RowKit Go.Aw
theorem own : ownKnob Tryz.prog.godebug = none := by kernel_rfl
theorem laidOut : laidOutB Tryz.prog = true := by kernel_rfl
theorem rowed : mapsRowed Tryz.prog = true := by kernel_rfl
theorem full : slicesFull Tryz.prog = true := by kernel_rfl
theorem small : (([29, 39] : List TypeId).all fun t => decide (t < Tryz.prog.types.size)) = true := by kernel_rfl
set_option maxRecDepth 100000 in
theorem contract (H : Type) (enc : TypeId × Value → H) (W : World) (base : Nat) (args : Array Value) (ds gs : List (DataW H)) (before : List MemPlace)
    (hval : ∀ (j : Nat) t v, Tryz.f4.params[j]? = some t → args[j]? = some v → Value.okWide Tryz.prog W .any base t v)
    (hW : DataW.Whole enc Tryz.prog Tryz.f4.params.toList Rows.sessionWritesSpec.vars false W args.toList ds gs before) (hk : Rows.uptoSmall H (ds ++ gs) = true) :
    Calls Tryz.prog 4 args W fun e W' => ∃ v, e = .returned v ∧ Rows.sessionWritesSpec.post enc Tryz.prog Tryz.f4 false true false false W args v W' := by
  have hb : (ds.map Rows.uptoBulk).sum ≤ 1048576 := by
    have h : Rows.uptoBulkAll (ds ++ gs) ≤ 1048576 := of_decide_eq_true hk
    rw [Se.bulk_all, List.map_append, List.sum_append_nat] at h
    omega
  refine law_of_con (P := Tryz.prog) (fid := 4) (f := Tryz.f4) (s := Rows.sessionWritesSpec) (bulk := Rows.uptoBulk) (tb := 4) rfl (fun ds hl => ?_) (by kernel_rfl) Tryz.underlying4 laidOut rowed full (fun t ht => by rw [Tryz.params4] at ht; exact of_decide_eq_true (List.all_eq_true.1 small t ht)) W base args ds gs before hval hW (by rw [Tryz.params4]; exact Se.ops_writes (Se.bulk_ok H)) fun x hx => ?_
  · rw [Tryz.params4] at hl
    match ds, hl with
    | [d0, d1], _ => rfl
  · obtain ⟨b1, b2, ⟨h1, h2⟩, ⟨b3, b4, ⟨h3, h4⟩, _, e2⟩, e1⟩ := hx
    exact Se.SessionWrites_con x.1 x.2.1 (by unfold Se.cmdsize; omega) (by unfold Se.repsize; omega) h2 h4
def acceptCells : List Value := ([128, 191, 160, 191, 128, 159, 144, 191, 128, 143, 0, 0, 0, 0, 0, 0, 0, 0, 0, 0, 0, 0, 0, 0, 0, 0, 0, 0, 0, 0, 0, 0] : List Int).map fun n => .int .u8 n
def firstCells : List Value := Go.Pinned.utf8FirstZ.map fun (n : Nat) => Value.int .u8 (n : Int)
def fill (l : List Value) : Obj → Obj
  | .cells _ t frozen => .cells l.toArray t frozen
  | o => o
/-- a world whose listed variables hold what the program's text lays -/
noncomputable def laidWorld (os : Os) : World :=
  { World.holding Tryz.prog os ⟨#[], #[], []⟩ with heap := ((World.holding Tryz.prog os ⟨#[], #[], []⟩).heap.modify 1 (fill firstCells)).modify 2 (fill acceptCells) }
def cmd0 : Value := .agg #[.int .u8 0, .int .i64 0, .slice none 0 0, .slice none 0 0, .string .empty, .bool false, .string .empty]
def rep0 : Value := .agg #[.int .u8 0, .int .i64 0, .string .empty, .int .i64 0, .int .i64 0, .int .i64 0, .int .i64 0, .int .i64 0, .slice none 0 0, .slice none 0 0, .string .empty]
theorem laid_met (os : Os) : laidMet Tryz.prog Rows.sessionWritesUptoRow.laid ((laidWorld os).forCall (fun _ _ => 0) ⟨#[], #[cmd0, rep0], []⟩).memory :=
  laidMet_of_run' 8 (by kernel_rfl) (by kernel_rfl)
theorem reads (os : Os) {H : Type} (enc : TypeId × Value → H) : ∃ places, DataW.whole enc Tryz.prog ((laidWorld os).forCall (fun _ _ => 0) ⟨#[], #[cmd0, rep0], []⟩).memory Tryz.f4.params.toList Rows.sessionWritesSpec.vars false #[cmd0, rep0].toList 8 =
    some ([.agg [.lit (.int .u8 0), .lit (.int .i64 0), .nil, .nil, .lit (.string []), .lit (.bool false), .lit (.string [])], .agg [.lit (.int .u8 0), .lit (.int .i64 0), .lit (.string []), .agg [.lit (.int .i64 0), .lit (.int .i64 0)], .lit (.int .i64 0), .lit (.int .i64 0), .lit (.int .i64 0), .nil, .nil, .lit (.string [])]], [], places) :=
  ⟨[], by kernel_rfl⟩
set_option maxRecDepth 100000 in
theorem lifted (os : Os) (started : os.Started) (H : Type) (enc : TypeId × Value → H) (F : Stop.Interp) :
    ReturnsInHanded {} Tryz.checked os 4 .any ((Rows.OpenSpec.upto Rows.sessionWritesSpec).preRow enc Tryz.prog Tryz.f4 Rows.sessionWritesUptoRow.domain false Rows.sessionWritesUptoRow.laid) (((Rows.OpenSpec.upto Rows.sessionWritesSpec).at F).post enc Tryz.prog Tryz.f4 false true false false) := by
  obtain ⟨places, hx⟩ := reads os enc
  refine returnsInHanded_of_row (C := Tryz.checked) (s := Rows.OpenSpec.upto Rows.sessionWritesSpec) own started (by kernel_rfl) Tryz.func4
    (witness_row_at (enc := enc) (C := Tryz.checked) false (laidWorld os) #[cmd0, rep0] rfl (by kernel_rfl) (by kernel_rfl) (by kernel_rfl)
      (OpenSpec.preRow_of_cond 8 hx (by kernel_rfl) (fun k hk => by cases hk; kernel_rfl) (by kernel_rfl) (laid_met os))) ?_
  intro W base args ds gs before hval hW h1 h2 h3 hL h4 h5
  exact contract H enc W base args ds gs before hval hW (h2 _ rfl)
theorem saidUpto : Rows.SessionWritesUptoSaid :=
  OpenClaim.holds_of_cond 4 Tryz.f4 rfl rfl rfl rfl rfl rfl rfl ⟨rfl, rfl, rfl, rfl, rfl⟩ rfl rfl rfl rfl rfl (by kernel_rfl) Tryz.func4 (by kernel_rfl)
    (of_decide_eq_true (by kernel_rfl)) (by unfold Func.isWrapper; first | (rw [if_pos (by decide +kernel)]; kernel_rfl) | (rw [if_neg (by decide +kernel)]; exact ⟨rfl, rfl⟩))
    (fun os started H enc _ F => by rw [OpenClaim.pre_eq_preRow]; exact lifted os started H enc F)
theorem plain (f : FuncId) (fn : Func) (hf : Tryz.pinned.checked.prog.funcNamed "corollary/corollarylaw31.SessionWrites" = some f) (hfn : Tryz.pinned.checked.prog.funcs[f]? = some fn) :
    false = Tryz.pinned.checked.prog.looks [] ∧ ∀ (j : Nat) t, fn.params[j]? = some t → Tryz.pinned.checked.prog.wantsStandIn t = false := by
  obtain rfl : f = 4 := Option.some.inj ((show Tryz.prog.funcNamed "corollary/corollarylaw31.SessionWrites" = some 4 by kernel_rfl).symm.trans hf) |>.symm
  obtain rfl : fn = Tryz.f4 := (Option.some.inj (Tryz.func4.symm.trans hfn)).symm
  refine ⟨by kernel_rfl, fun j t ht => ?_⟩
  rw [Tryz.params4] at ht
  have hm : t = 29 ∨ t = 39 := by simpa using Array.mem_of_getElem? ht
  rcases hm with rfl | rfl
  · exact (show Tryz.prog.wantsStandIn 29 = false by kernel_rfl)
  · exact (show Tryz.prog.wantsStandIn 39 = false by kernel_rfl)
theorem proved : Rows.SessionWritesUptoCardSaid :=
  Claim7.holds_tied_plain_at .later [] _ _ _ _ saidUpto (fun _ h => by cases h) (by kernel_rfl) (fun _ h => by cases h) sessionWritesUpto_row_tie rfl ⟨rfl, rfl⟩ (by kernel_rfl) rfl plain (by kernel_rfl)
end Go.Proofs.YtmikljncdgfjpaaGreatDoor.writesLaw
