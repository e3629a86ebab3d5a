/- What the arguments read as: commands, replies. -/
import Derived.Test.YtmikljncdgfjpaaGreatDoorAwZ
import Derived.Test.YtmikljncdgfjpaaGreatDoorSeSpD
import Derived.Test.YtmikljncdgfjpaaGreatDoorSeN
import Derived.Test.YtmikljncdgfjpaaGreatDoorRows
set_option linter.unusedSimpArgs false
set_option linter.unusedVariables false
open Go Go.Aw Go.Proofs
namespace Go.Se
theorem co2 : Tryz.prog.cellsOf 2 = 1 := by kernel_rfl
theorem co3 : Tryz.prog.cellsOf 3 = 1 := by kernel_rfl
theorem co9 : Tryz.prog.cellsOf 9 = 1 := by kernel_rfl
theorem coV : Tryz.prog.cellsOf 114 = 4 := by kernel_rfl
theorem coC : Tryz.prog.cellsOf 67 = 3 := by kernel_rfl
theorem coL : Tryz.prog.cellsOf 63 = 1 := by kernel_rfl
theorem bulk_all {H : Type} : ∀ l : List (DataW H), YtmikljncdgfjpaaGreatDoor.Rows.uptoBulkAll l = (l.map YtmikljncdgfjpaaGreatDoor.Rows.uptoBulk).sum
  | [] => by simp [YtmikljncdgfjpaaGreatDoor.Rows.uptoBulkAll]
  | d :: l => by simp [YtmikljncdgfjpaaGreatDoor.Rows.uptoBulkAll, bulk_all l]
theorem bulk_ok (H : Type) : Bulk (YtmikljncdgfjpaaGreatDoor.Rows.uptoBulk (H := H)) := by
  refine ⟨fun d => ?_, fun e s => ?_, fun l => ?_, fun l => ?_⟩
  · cases d with
    | lit l => cases l <;> simp [YtmikljncdgfjpaaGreatDoor.Rows.uptoBulk]
    | _ => simp [YtmikljncdgfjpaaGreatDoor.Rows.uptoBulk]
  · simp only [YtmikljncdgfjpaaGreatDoor.Rows.uptoBulk, bulk_all]; omega
  · simp only [YtmikljncdgfjpaaGreatDoor.Rows.uptoBulk, bulk_all]; omega
  · simp [YtmikljncdgfjpaaGreatDoor.Rows.uptoBulk]
section
variable {H : Type} {enc : TypeId × Value → H} {w : World} {bulk : DataW H → Nat}
def inR (n : Int) : Prop := -9223372036854775808 ≤ n ∧ n ≤ 9223372036854775807
theorem wf64 {n : Int} (h : (Lit.int .i64 n).wf = true) : inR n := by
  simp [Lit.wf, IntKind.min, IntKind.max, IntKind.bits, IntKind.signed] at h
  unfold inR; omega
theorem wf8 {n : Int} (h : (Lit.int .u8 n).wf = true) : 0 ≤ n := by
  simp [Lit.wf, IntKind.min, IntKind.max, IntKind.bits, IntKind.signed] at h
  omega
theorem op_int (N : Nat) : Opens enc Tryz.prog w bulk N 3 (fun n : Int => [ival n]) (fun n _ => inR n) := (Opens.int Tryz.underlying3).map id (fun _ => rfl) (fun _ _ h => wf64 h)
theorem op_i64 (N : Nat) : Opens enc Tryz.prog w bulk N 2 (fun n : Int => [ival n]) (fun n _ => inR n) := (Opens.int Tryz.underlying2).map id (fun _ => rfl) (fun _ _ h => wf64 h)
theorem op_errno (N : Nat) : Opens enc Tryz.prog w bulk N 26 (fun n : Int => [ival n]) (fun n _ => inR n) := (Opens.int Tryz.underlying26).map id (fun _ => rfl) (fun _ _ h => wf64 h)
theorem op_u8 (N : Nat) : Opens enc Tryz.prog w bulk N 5 (fun n : Int => [uval n]) (fun n _ => 0 ≤ n) := (Opens.int Tryz.underlying5).map id (fun _ => rfl) (fun _ _ h => wf8 h)
theorem op_bool (N : Nat) : Opens enc Tryz.prog w bulk N 4 (fun b : Bool => [bval b]) (fun _ _ => True) := Opens.bool Tryz.underlying4
theorem op_text (hb : Bulk bulk) (N : Nat) : Opens enc Tryz.prog w bulk N 9 (fun s : ByteArray => [sval s]) (fun s b => s.size + 1 ≤ b) := .string hb Tryz.underlying9
theorem op_pos (hb : Bulk bulk) : ∀ N, Opens enc Tryz.prog w bulk N 33 (fun p : Int × Int => [ival p.1, ival p.2]) (fun _ _ => True) :=
  Opens.structAll hb Tryz.underlying33 (by kernel_rfl) (fun N => .cons rfl (m := 1) (by kernel_rfl) (op_int N) (.cons rfl (m := 1) (by kernel_rfl) (op_int N) .nil (by simp)) (by simp))
    (ok' := fun _ _ => True) (fun _ _ _ _ _ => trivial) |> fun h N => (h N).map (fun x => (x.1, x.2.1)) (fun _ => rfl) (fun _ _ _ => trivial)
theorem tsizes_ok {l : List ByteArray} : ∀ {b : Nat}, SumOK (fun s b => s.size + 1 ≤ b) l b → tsizes l ≤ b := by
  induction l with
  | nil => intro b h; exact Nat.zero_le _
  | cons x l ih => intro b ⟨b1, b2, h1, h2, h3, h4⟩; have := ih h3; simp only [tsizes]; omega
theorem op_texts (hb : Bulk bulk) : ∀ N, Opens enc Tryz.prog w bulk N 22 (fun l : List ByteArray => [.rd 1 (l.map encT)]) (fun l b => tsizes l ≤ b) := fun N =>
  (Opens.sliceAll hb Tryz.underlying22 (by rw [co9]; decide) (fun _ => by rw [co9]; rfl) (op_text hb) N).map id (fun _ => by rw [co9]; rfl) (fun x b h => tsizes_ok h)
theorem vsizes_ok {l : List ValD} : ∀ {b : Nat}, SumOK (fun e b => vsize e ≤ b ∧ rng e) l b → vsizes l < b ∧ rngs l := by
  induction l with
  | nil => intro b h; exact ⟨h, trivial⟩
  | cons x l ih => intro b ⟨b1, b2, h1, h2, h3, h4⟩; have := ih h3; simp only [vsizes, rngs]; exact ⟨by omega, h2.2, this.2⟩
def mkV (x : Int × Int × ByteArray × List ValD × Unit) : ValD := .mk x.1 x.2.1 x.2.2.1 x.2.2.2.1
theorem op_vals (hb : Bulk bulk) : ∀ N, Opens enc Tryz.prog w bulk N 114 encV (fun e b => vsize e ≤ b ∧ rng e) ∧ Opens enc Tryz.prog w bulk N 63 encL (fun l b => vsizes l < b ∧ rngs l) := by
  intro N
  induction N with
  | zero => exact ⟨Opens.zero, Opens.zero⟩
  | succ N ih =>
    refine ⟨?_, ?_⟩
    · refine (Opens.struct hb Tryz.underlying114 (by kernel_rfl) (.cons rfl (m := 1) (by kernel_rfl) (op_u8 N) (.cons rfl (m := 1) (by kernel_rfl) (op_i64 N) (.cons rfl (m := 1) (by kernel_rfl) (op_text hb N)
        (.cons rfl (m := 1) (by kernel_rfl) ih.2 .nil (by simp)) (by simp)) (by simp)) (by simp)) (ok' := fun x b => vsize (mkV x) ≤ b ∧ rng (mkV x)) (fun x b b' h hb => ?_)).map mkV (fun x => ?_) (fun _ _ h => h)
      · obtain ⟨b1, b2, h1, ⟨b3, b4, h3, ⟨b5, b6, h5, ⟨b7, b8, h7, _, e5⟩, e4⟩, e3⟩, e1⟩ := h
        rw [vsize_eq, rng_eq]
        simp only [mkV, ValD.s, ValD.l, ValD.n]
        exact ⟨by omega, h3, h7.2⟩
      · rw [encV_eq]; rfl
    · exact (Opens.slice hb Tryz.underlying63 (by rw [coV]; decide) (fun e => by rw [coV]; exact encV_len e) ih.1).map id (fun _ => by rw [coV]; rfl) (fun x b h => vsizes_ok h)
def mkC (x : (ByteArray × List ValD × Unit) × Int × Unit) : ChgD := { rel := x.1.1, l := x.1.2.1, n := x.2.1 }
theorem op_row (hb : Bulk bulk) : ∀ N, Opens enc Tryz.prog w bulk N 65 (fun x : ByteArray × List ValD × Unit => [sval x.1, .rd 4 (x.2.1.map encV)]) (fun x b => x.1.size + vsizes x.2.1 + 1 ≤ b ∧ rngs x.2.1) := fun N =>
  (Opens.structAll hb Tryz.underlying65 (by kernel_rfl) (fun N => .cons rfl (m := 1) (by kernel_rfl) (op_text hb N) (.cons rfl (m := 1) (by kernel_rfl) (op_vals hb N).2 .nil (by simp)) (by simp))
    (ok' := fun x b => x.1.size + vsizes x.2.1 + 1 ≤ b ∧ rngs x.2.1) (fun x b b' h hb => by
      obtain ⟨b1, b2, h1, ⟨b3, b4, h3, _, e2⟩, e1⟩ := h
      exact ⟨by omega, h3.2⟩) N).map id (fun _ => rfl) (fun _ _ h => h)
theorem op_change (hb : Bulk bulk) : ∀ N, Opens enc Tryz.prog w bulk N 67 encC (fun c b => csize c ≤ b ∧ crng c) := fun N =>
  (Opens.structAll hb Tryz.underlying67 (by kernel_rfl) (fun N => .cons rfl (m := 2) (by kernel_rfl) (op_row hb N) (.cons rfl (m := 1) (by kernel_rfl) (op_int N) .nil (by simp)) (by simp))
    (ok' := fun x b => csize (mkC x) ≤ b ∧ crng (mkC x)) (fun x b b' h hb => by
      obtain ⟨b1, b2, h1, ⟨b3, b4, h3, _, e2⟩, e1⟩ := h
      simp only [csize, crng, mkC]
      exact ⟨by omega, h3, h1.2⟩) N).map mkC (fun _ => rfl) (fun _ _ h => h)
theorem csizes_ok {l : List ChgD} : ∀ {b : Nat}, SumOK (fun e b => csize e ≤ b ∧ crng e) l b → csizes l ≤ b ∧ crngs l := by
  induction l with
  | nil => intro b h; exact ⟨Nat.zero_le _, trivial⟩
  | cons x l ih => intro b ⟨b1, b2, h1, h2, h3, h4⟩; have := ih h3; simp only [csizes, crngs]; exact ⟨by omega, h2.2, this.2⟩
theorem op_changes (hb : Bulk bulk) : ∀ N, Opens enc Tryz.prog w bulk N 23 (fun l : List ChgD => [.rd 3 (l.map encC)]) (fun l b => csizes l ≤ b ∧ crngs l) := fun N =>
  (Opens.sliceAll hb Tryz.underlying23 (by rw [coC]; decide) (fun _ => by rw [coC]; rfl) (op_change hb) N).map id (fun _ => by rw [coC]; rfl) (fun x b h => csizes_ok h)
theorem rsizes_ok {l : List (List ValD)} : ∀ {b : Nat}, SumOK (fun e b => vsizes e < b ∧ rngs e) l b → rsizes l ≤ b ∧ rrngs l := by
  induction l with
  | nil => intro b h; exact ⟨Nat.zero_le _, trivial⟩
  | cons x l ih => intro b ⟨b1, b2, h1, h2, h3, h4⟩; have := ih h3; simp only [rsizes, rrngs]; exact ⟨by omega, h2.2, this.2⟩
theorem op_rows (hb : Bulk bulk) : ∀ N, Opens enc Tryz.prog w bulk N 34 (fun l : List (List ValD) => [.rd 1 (l.map encL)]) (fun l b => rsizes l ≤ b ∧ rrngs l) := fun N =>
  (Opens.sliceAll hb Tryz.underlying34 (by rw [coL]; decide) (fun _ => by rw [coL]; rfl) (fun N => (op_vals hb N).2) N).map id (fun _ => by rw [coL]; rfl) (fun x b h => rsizes_ok h)
def mkCmd (x : Int × Int × List ByteArray × List ChgD × ByteArray × Bool × ByteArray × Unit) : CmdD := { kind := x.1, limit := x.2.1, texts := x.2.2.1, changes := x.2.2.2.1, rel := x.2.2.2.2.1, comes := x.2.2.2.2.2.1, text := x.2.2.2.2.2.2.1 }
theorem op_cmd (hb : Bulk bulk) : ∀ N, Opens enc Tryz.prog w bulk N 29 encCmd (fun c b => tsizes c.texts + csizes c.changes + c.rel.size + c.text.size ≤ b ∧ cmdrng c) := fun N =>
  (Opens.structAll hb Tryz.underlying29 (by kernel_rfl) (fun N => .cons rfl (m := 1) (by kernel_rfl) (op_u8 N) (.cons rfl (m := 1) (by kernel_rfl) (op_int N) (.cons rfl (m := 1) (by kernel_rfl) (op_texts hb N) (.cons rfl (m := 1) (by kernel_rfl) (op_changes hb N)
    (.cons rfl (m := 1) (by kernel_rfl) (op_text hb N) (.cons rfl (m := 1) (by kernel_rfl) (op_bool N) (.cons rfl (m := 1) (by kernel_rfl) (op_text hb N) .nil (by simp)) (by simp)) (by simp)) (by simp)) (by simp)) (by simp)) (by simp))
    (ok' := fun x b => tsizes (mkCmd x).texts + csizes (mkCmd x).changes + (mkCmd x).rel.size + (mkCmd x).text.size ≤ b ∧ cmdrng (mkCmd x)) (fun x b b' h hb => by
      obtain ⟨b1, b2, h1, ⟨b3, b4, h3, ⟨b5, b6, h5, ⟨b7, b8, h7, ⟨b9, b10, h9, ⟨b11, b12, h11, ⟨b13, b14, h13, _, e7⟩, e6⟩, e5⟩, e4⟩, e3⟩, e2⟩, e1⟩ := h
      simp only [mkCmd, cmdrng]
      exact ⟨by omega, h7.2⟩) N).map mkCmd (fun _ => rfl) (fun _ _ h => h)
def mkRep (x : Int × Int × ByteArray × (Int × Int) × Int × Int × Int × List ChgD × List (List ValD) × ByteArray × Unit) : RepD := { kind := x.1, e := x.2.1, module := x.2.2.1, line := x.2.2.2.1.1, col := x.2.2.2.1.2, rule := x.2.2.2.2.1, never := x.2.2.2.2.2.1, row := x.2.2.2.2.2.2.1, changes := x.2.2.2.2.2.2.2.1, rows := x.2.2.2.2.2.2.2.2.1, text := x.2.2.2.2.2.2.2.2.2.1 }
theorem op_rep (hb : Bulk bulk) : ∀ N, Opens enc Tryz.prog w bulk N 39 encRep (fun r b => r.module.size + csizes r.changes + rsizes r.rows + r.text.size ≤ b ∧ reprng r) := fun N =>
  (Opens.structAll hb Tryz.underlying39 (by kernel_rfl) (fun N => .cons rfl (m := 1) (by kernel_rfl) (op_u8 N) (.cons rfl (m := 1) (by kernel_rfl) (op_errno N) (.cons rfl (m := 1) (by kernel_rfl) (op_text hb N) (.cons rfl (m := 2) (by kernel_rfl) (op_pos hb N)
    (.cons rfl (m := 1) (by kernel_rfl) (op_int N) (.cons rfl (m := 1) (by kernel_rfl) (op_int N) (.cons rfl (m := 1) (by kernel_rfl) (op_int N) (.cons rfl (m := 1) (by kernel_rfl) (op_changes hb N) (.cons rfl (m := 1) (by kernel_rfl) (op_rows hb N) (.cons rfl (m := 1) (by kernel_rfl) (op_text hb N) .nil (by simp)) (by simp)) (by simp)) (by simp)) (by simp)) (by simp)) (by simp)) (by simp)) (by simp)) (by simp))
    (ok' := fun x b => (mkRep x).module.size + csizes (mkRep x).changes + rsizes (mkRep x).rows + (mkRep x).text.size ≤ b ∧ reprng (mkRep x)) (fun x b b' h hb => by
      obtain ⟨b1, b2, h1, ⟨b3, b4, h3, ⟨b5, b6, h5, ⟨b7, b8, h7, ⟨b9, b10, h9, ⟨b11, b12, h11, ⟨b13, b14, h13, ⟨b15, b16, h15, ⟨b17, b18, h17, ⟨b19, b20, h19, _, e10⟩, e9⟩, e8⟩, e7⟩, e6⟩, e5⟩, e4⟩, e3⟩, e2⟩, e1⟩ := h
      simp only [mkRep, reprng]
      exact ⟨by omega, h1, h9, h11, h3, h15.2, h17.2⟩) N).map mkRep (fun _ => rfl) (fun _ _ h => h)
/-- the arguments: a command, a reply -/
theorem ops_writes (hb : Bulk bulk) : OpensA enc Tryz.prog w bulk [29, 39] (fun x : CmdD × RepD × Unit => [cmdX x.1, repX x.2.1]) (BothOK (fun c b => tsizes c.texts + csizes c.changes + c.rel.size + c.text.size ≤ b ∧ cmdrng c) (BothOK (fun r b => r.module.size + csizes r.changes + rsizes r.rows + r.text.size ≤ b ∧ reprng r) (fun _ _ => True))) :=
  OpensA.cons (e1 := cmdX) (Opens.argAgg Tryz.underlying29 (op_cmd hb)) (OpensA.cons (e1 := repX) (Opens.argAgg Tryz.underlying39 (op_rep hb)) OpensA.nil)
end
end Go.Se
