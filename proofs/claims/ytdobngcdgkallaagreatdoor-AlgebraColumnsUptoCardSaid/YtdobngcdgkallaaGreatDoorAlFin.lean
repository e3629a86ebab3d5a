/- The columns of any plan are the document's, or the refusal; and whether two plans are the same. Condition: what is read is of bulk at most 1048576 (the given form Upto, its tied card). -/
import Derived.Test.YtdobngcdgkallaaGreatDoorAlZf
import Derived.Test.YtdobngcdgkallaaGreatDoorAlOp
import Derived.Test.YtdobngcdgkallaaGreatDoorCards
import Derived.Test.YtdobngcdgkallaaGreatDoorTie
import Derived.WalkKit
import Derived.ProofKit
import Derived.OpenShut
import Derived.JoinedCond
import Derived.Shelf.Vars
import Derived.Deep.DeepHandedRow
import Derived.Lib.LaidTab
import Derived.Lib.ItoaNum
set_option linter.unusedSimpArgs false
set_option linter.unusedVariables false
set_option linter.unusedSectionVars false
namespace Go.Proofs.YtdobngcdgkallaaGreatDoor.columnsLaw
open Go.ChangeShapes Go.WideShapes Go.ChangeAt Go.RowKit Go.Aw
theorem own : ownKnob Tryz.prog.godebug = none := by kernel_rfl
theorem laidOut : laidOutB Tryz.prog = true := by kernel_rfl
theorem rowed : mapsRowed Tryz.prog = true := by kernel_rfl
theorem full : slicesFull Tryz.prog = true := by kernel_rfl
theorem small : (([26, 26] : List TypeId).all fun t => decide (t < Tryz.prog.types.size)) = true := by kernel_rfl
theorem at0 : ((begin Tryz.prog (fun _ _ => 0) default).world.heap[0]?).bind Obj.row? = some (#[.int .i64 0], 3) := by kernel_rfl
/-- bytealg.MaxLen is an int -/
theorem max_int (W : World) (h : W.ShapedOpen Tryz.prog) : ∃ o, W.heap[0]? = some o ∧ ∃ m t f, o = .cells #[.int .i64 m] t f := by
 obtain ⟨m, hm⟩ := cell_of_shapedOpen_int (g := 0) (t := 3) (k := .i64) h (of_decide_eq_true (by kernel_rfl)) at0 rfl (by kernel_rfl) (by kernel_rfl) Tryz.underlying3
 obtain ⟨cs, hh, hs, _⟩ := h.1 0 _ _ (of_decide_eq_true (by kernel_rfl)) at0
 refine ⟨_, hh, m, 3, (0, 0), ?_⟩
 have h1 : cs.size = 1 := hs
 simp [World.cell?, hh, h1] at hm
 congr 1
 apply Array.ext
 ·simp [h1]
 ·intro i h2 h3
  have : i = 0 := by simp at h3; omega
  subst this
  simpa using hm
theorem no_handle : (Rows.algebraColumnsUptoRow.laid.filter fun x => x.2.handleName?.isSome) = [] := by kernel_rfl
/-- the powers of ten are those that are listed -/
theorem table (W : World) (h : laidMetH Tryz.prog Rows.algebraColumnsUptoRow.laid W) : ∃ o, W.heap[1]? = some o ∧ ∃ t f, o = .cells (Al.pow10s.map fun z => Value.int .u64 z).toArray t f := by
 have hL : laidMet Tryz.prog Rows.algebraColumnsUptoRow.laid W := by
  unfold laidMetH at h
  rw [no_handle] at h
  exact h
 obtain ⟨ps, hv, _⟩ := hL
 obtain ⟨g1, t1, cs1, fuel1, p1, q1, _, _, _, _, hv, _⟩ := hv
 obtain ⟨g2, t2, cs2, fuel2, p2, q2, _, _, _, _, hv, _⟩ := hv
 obtain ⟨g, t, cs, fuel, p, q, hg, ht, hvar, hd, _, _⟩ := hv
 obtain rfl : g = 1 := Option.some.inj (hg.symm.trans (show Tryz.prog.globalNamed _ = some 1 by kernel_rfl))
 have hd' : DataW.trod (fun _ => ()) Tryz.prog W 0 (fun _ => true) false fuel t cs.toList = some (Lib.tabData .u64 Lib.pow10Tab, p) := hd
 obtain rfl : t = 227 := Option.some.inj (ht.symm.trans (show (Tryz.prog.globals[1]?).map (·.type) = some 227 by kernel_rfl))
 have hcs := Lib.cells_of_tab (n := 20) (e := 217) (show Tryz.prog.underlying 227 = some (.array 20 217) by kernel_rfl) (show Tryz.prog.underlying 217 = some (.int .u64) by kernel_rfl) (by kernel_rfl) (by kernel_rfl) hd'
 unfold World.var? at hvar
 rw [hg, Option.bind_some] at hvar
 cases hW : W.heap[1]? with
 | none => rw [hW] at hvar; cases hvar
 | some o =>
  rw [hW] at hvar
  cases o with
  | cells c t f =>
   simp only [Option.some.injEq] at hvar
   refine ⟨_, rfl, t, f, ?_⟩
   congr 1
   rw [hvar]
   exact Array.toList_inj.1 hcs
  | _ => cases hvar
theorem gl (W : World) (h : W.ShapedOpen Tryz.prog) (hl : laidMetH Tryz.prog Rows.algebraColumnsUptoRow.laid W) : GLok (frz W) := by
 intro x hx
 rcases List.mem_cons.1 hx with rfl | hx
 ·exact max_int W h
 ·obtain rfl := List.mem_singleton.1 hx
  exact table W hl
set_option maxRecDepth 100000 in
theorem contract (H : Type) (enc : TypeId × Value → H) (W : World) (base : Nat) (args : Array Value) (ds gs : List (DataW H)) (before : List MemPlace)
  (hval : ∀ (j : Nat) t v, Tryz.f3.params[j]? = some t → args[j]? = some v → Value.okWide Tryz.prog W .any base t v)
  (hW : DataW.Whole enc Tryz.prog Tryz.f3.params.toList Rows.algebraColumnsSpec.vars false W args.toList ds gs before) (hk : Rows.uptoSmall H (ds ++ gs) = true) (hg : GLok (frz W)) :
  Calls Tryz.prog 3 args W fun e W' => ∃ v, e = .returned v ∧ Rows.algebraColumnsSpec.post enc Tryz.prog Tryz.f3 false true false false W args v W' := by
 have hb : (ds.map Rows.uptoBulk).sum ≤ 1048576 := by
  have h : Rows.uptoBulkAll (ds ++ gs) ≤ 1048576 := of_decide_eq_true hk
  rw [Al.bulk_all, List.map_append, List.sum_append_nat] at h
  omega
 refine law_of_con (P := Tryz.prog) (fid := 3) (f := Tryz.f3) (s := Rows.algebraColumnsSpec) (bulk := Rows.uptoBulk) (tb := 4) rfl (fun ds hl => ?_) (by kernel_rfl) Tryz.underlying4 laidOut rowed full (fun t ht => by rw [Tryz.params3] at ht; exact of_decide_eq_true (List.all_eq_true.1 small t ht)) W base args ds gs before hval hW (by rw [Tryz.params3]; exact Al.ops_plans (Al.bulk_ok H)) hg fun x hx => ?_
 ·rw [Tryz.params3] at hl
  match ds, hl with
  | [d0, d1], _ => rfl
 ·obtain ⟨b1, b2, ⟨h1, h2⟩, ⟨b3, b4, ⟨h3, h4⟩, _, e2⟩, e1⟩ := hx
  have hc := Al.law_ok x.1 x.2.1 (by omega) (by omega) h2
  rw [Al.planX_enc, Al.planX_enc] at hc
  exact hc
def cellsU : DataW Unit → List Value
 | .lit (.int k n) => [.int k n]
 | _ => []
def cellsD : DataW Unit → List Value
 | .agg l => l.flatMap fun d => match d with
  | .agg m => m.flatMap cellsU
  | d => cellsU d
 | _ => []
def fill (l : List Value) : Obj → Obj
 | .cells _ t frozen => .cells l.toArray t frozen
 | o => o
/-- a world whose listed variables hold what the program's text lays -/
noncomputable def laidWorld (os : Os) : World :=
 { World.holding Tryz.prog os ⟨#[], #[], []⟩ with heap := (((((World.holding Tryz.prog os ⟨#[], #[], []⟩).heap.modify 1 (fill (cellsD Rows.laid_internal_strconv_uint64pow10))).modify 2 (fill (cellsD Rows.laid_math_bits_deBruijn32tab))).modify 3 (fill (cellsD Rows.laid_math_bits_deBruijn64tab))).modify 4 (fill (cellsD Rows.laid_unicode_utf8_first))).modify 5 (fill (cellsD Rows.laid_unicode_utf8_acceptRanges)) }
def plan0 : Value := .agg #[.int .u8 0, .string .empty, .string .empty, .slice none 0 0, .slice none 0 0, .slice none 0 0]
def data0 {H : Type} : DataW H := .agg [.lit (.int .u8 0), .lit (.string []), .lit (.string []), .nil, .nil, .nil]
theorem globs : (["internal/bytealg.MaxLen", "internal/strconv.uint64pow10", "math/bits.deBruijn32tab", "math/bits.deBruijn64tab", "unicode/utf8.first", "unicode/utf8.acceptRanges"].map Tryz.prog.globalNamed) = [some 0, some 1, some 2, some 3, some 4, some 5] := by kernel_rfl
theorem laid_met (os : Os) : laidMet Tryz.prog Rows.algebraColumnsUptoRow.laid ((laidWorld os).forCall (fun _ _ => 0) ⟨#[], #[plan0, plan0], []⟩).memory :=
 laidMet_of_run' 8 (by kernel_rfl) (by kernel_rfl)
theorem reads (os : Os) {H : Type} (enc : TypeId × Value → H) : ∃ places, DataW.whole enc Tryz.prog ((laidWorld os).forCall (fun _ _ => 0) ⟨#[], #[plan0, plan0], []⟩).memory Tryz.f3.params.toList Rows.algebraColumnsSpec.vars false #[plan0, plan0].toList 8 =
  some ([data0, data0], [], places) :=
 ⟨[], by kernel_rfl⟩
set_option maxRecDepth 100000 in
theorem lifted (os : Os) (started : os.Started) (H : Type) (enc : TypeId × Value → H) (F : Stop.Interp) :
  ReturnsInHanded {} Tryz.checked os 3 .any ((Rows.OpenSpec.upto Rows.algebraColumnsSpec).preRow enc Tryz.prog Tryz.f3 Rows.algebraColumnsUptoRow.domain false Rows.algebraColumnsUptoRow.laid) (((Rows.OpenSpec.upto Rows.algebraColumnsSpec).at F).post enc Tryz.prog Tryz.f3 false true false false) := by
 obtain ⟨places, hx⟩ := reads os enc
 refine returnsInHanded_of_row (C := Tryz.checked) (s := Rows.OpenSpec.upto Rows.algebraColumnsSpec) own started (by kernel_rfl) Tryz.func3
  (witness_row_at (enc := enc) (C := Tryz.checked) false (laidWorld os) #[plan0, plan0] rfl (by kernel_rfl) (by kernel_rfl) (by kernel_rfl)
   (OpenSpec.preRow_of_cond 8 hx (by kernel_rfl) (fun k hk => by cases hk; kernel_rfl) (by kernel_rfl) (laid_met os))) ?_
 intro W base args ds gs before hval hW h1 h2 h3 hL h4 h5
 exact contract H enc W base args ds gs before hval hW (h2 _ rfl) (gl W h4 hL)
theorem saidUpto : Rows.AlgebraColumnsUptoSaid :=
 OpenClaim.holds_of_cond 3 Tryz.f3 rfl rfl rfl rfl rfl rfl rfl ⟨rfl, rfl, rfl, rfl, rfl⟩ rfl rfl rfl rfl rfl (by kernel_rfl) Tryz.func3 (by kernel_rfl)
  (of_decide_eq_true (by kernel_rfl)) (by unfold Func.isWrapper; first | (rw [if_pos (by decide +kernel)]; kernel_rfl) | (rw [if_neg (by decide +kernel)]; exact ⟨rfl, rfl⟩))
  (fun os started H enc _ F => by rw [OpenClaim.pre_eq_preRow]; exact lifted os started H enc F)
theorem plain (f : FuncId) (fn : Func) (hf : Tryz.pinned.checked.prog.funcNamed "corollary/corollarylaw19.AlgebraColumns" = some f) (hfn : Tryz.pinned.checked.prog.funcs[f]? = some fn) :
  false = Tryz.pinned.checked.prog.looks [] ∧ ∀ (j : Nat) t, fn.params[j]? = some t → Tryz.pinned.checked.prog.wantsStandIn t = false := by
 obtain rfl : f = 3 := Option.some.inj ((show Tryz.prog.funcNamed "corollary/corollarylaw19.AlgebraColumns" = some 3 by kernel_rfl).symm.trans hf) |>.symm
 obtain rfl : fn = Tryz.f3 := (Option.some.inj (Tryz.func3.symm.trans hfn)).symm
 refine ⟨by kernel_rfl, fun j t ht => ?_⟩
 rw [Tryz.params3] at ht
 have hm : t = 26 := by simpa using Array.mem_of_getElem? ht
 subst hm
 exact (show Tryz.prog.wantsStandIn 26 = false by kernel_rfl)
theorem proved : Rows.AlgebraColumnsUptoCardSaid :=
 Claim7.holds_tied_plain_at .later [] _ _ _ _ saidUpto (fun _ h => by cases h) (by kernel_rfl) (fun _ h => by cases h) algebraColumnsUpto_row_tie rfl ⟨rfl, rfl⟩ (by kernel_rfl) rfl plain (by kernel_rfl)
end Go.Proofs.YtdobngcdgkallaaGreatDoor.columnsLaw
