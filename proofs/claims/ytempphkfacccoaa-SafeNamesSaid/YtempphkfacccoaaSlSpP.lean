/- The order of a body: what holds from round to round. -/
import Derived.Test.YtempphkfacccoaaSlSpO
set_option linter.unusedSimpArgs false
set_option linter.unusedVariables false
namespace Go.Sl
open Go.Aw
def wtL (x : LitD) : Nat := 1 + sizes x.args
def wtAt (l : List LitD) (i : Nat) : Nat := ((l[i]?).map wtL).getD 0
def wts (l : List LitD) : Nat := (l.map wtL).sum
structure OInv (l : List LitD) (s : OSt) : Prop where
  run : oEnd l = oRun l s.left.length s
  nd : s.left.Nodup
  lt : ∀ i ∈ s.left, i < l.length
  wt : s.names.length + (s.left.map (wtAt l)).sum ≤ 4194304
  row : s.row.length + s.left.length = l.length
theorem range_wt : ∀ (l : List LitD), ((List.range l.length).map (wtAt l)).sum = wts l := by
  intro l
  have : (List.range l.length).map (wtAt l) = l.map wtL := by
    apply List.ext_getElem
    · simp
    · intro i h1 h2
      simp at h1 h2
      simp [wtAt, h1]
  rw [this, wts]
theorem wtL_le : ∀ (l : List LitD) (i : Nat) (x : LitD), l[i]? = some x → wtL x ≤ wts l
  | [], _, _, h => by simp at h
  | y :: l, 0, x, h => by simp at h; subst h; simp [wts]
  | y :: l, i + 1, x, h => by have := wtL_le l i x (by simpa using h); simp only [wts, List.map_cons, List.sum_cons] at this ⊢; omega
theorem OInv.init (l : List LitD) (h : wts l ≤ 4194304) : OInv l ⟨List.range l.length, [], []⟩ :=
  ⟨by simp [oEnd], List.nodup_range, fun i hi => List.mem_range.1 hi, by simp only [List.length_nil, Nat.zero_add]; rw [range_wt]; exact h, by simp⟩
theorem gain_len (names : List ByteArray) (x : LitD) : (gain names x).length ≤ names.length + wtL x := by
  have key : ∀ (v n : List ByteArray), (v.foldl addT n).length ≤ n.length + v.length := by
    intro v
    induction v with
    | nil => intro n; simp
    | cons a v ih => intro n; rw [List.foldl_cons, List.length_cons]; have := ih (addT n a); have := addT_len n a; omega
  unfold gain wtL
  have h1 := key (lvars x) (if x.kind = 4 then addT names x.rel else names)
  have h2 : (if x.kind = 4 then addT names x.rel else names).length ≤ names.length + 1 := by
    split
    · exact addT_len _ _
    · omega
  have h3 := varsOf_len x.args
  simp only [lvars] at h1 ⊢
  omega
theorem sum_erase (f : Nat → Nat) : ∀ (l : List Nat) (i : Nat), i ∈ l → (l.map f).sum = f i + ((l.erase i).map f).sum
  | [], i, h => by cases h
  | j :: l, i, h => by
    by_cases e : j = i
    · subst e; simp
    · rw [List.erase_cons_tail (by simpa using e)]
      have hm : i ∈ l := by
        cases h with
        | head => exact absurd rfl e
        | tail _ h => exact h
      have := sum_erase f l i hm
      simp only [List.map_cons, List.sum_cons]; omega
theorem OInv.step {l : List LitD} {s : OSt} (h : OInv l s) {i : Nat} {x : LitD} (hx : l[i]? = some x) (hn : nextFrom l s.left s.names l 0 = some (i, x)) (hm : i ∈ s.left) :
    OInv l ⟨s.left.erase i, s.row ++ [i], gain s.names x⟩ ∧ (s.left.erase i).length < s.left.length := by
  have hl : (s.left.erase i).length + 1 = s.left.length := by have := List.length_pos_of_mem hm; rw [List.length_erase_of_mem hm]; omega
  have hstep : oStep l s = some ⟨s.left.erase i, s.row ++ [i], gain s.names x⟩ := by simp [oStep, hn]
  refine ⟨⟨?_, h.nd.erase i, fun j hj => h.lt j (List.mem_of_mem_erase hj), ?_, ?_⟩, by omega⟩
  · rw [h.run, ← hl]
    simp only [oRun, hstep]
  · have h1 := gain_len s.names x
    have h2 := sum_erase (wtAt l) s.left i hm
    have h3 : wtAt l i = wtL x := by simp [wtAt, hx]
    have := h.wt
    simp only
    omega
  · have := h.row
    simp only [List.length_append, List.length_cons, List.length_nil]; omega
theorem OInv.done {l : List LitD} {s : OSt} (h : OInv l s) (hn : nextFrom l s.left s.names l 0 = none) : oEnd l = s := by
  have hstep : oStep l s = none := by simp [oStep, hn]
  rw [h.run]
  cases s.left.length with
  | zero => rfl
  | succ n => simp only [oRun, hstep]
theorem next_drop (l : List LitD) (left : List Nat) (names : List ByteArray) (i : Nat) (h : i < l.length) : nextFrom l left names (l.drop i) i = if ready l left names i l[i] then some (i, l[i]) else nextFrom l left names (l.drop (i + 1)) (i + 1) := by
  rw [List.drop_eq_getElem_cons h]; rfl
theorem left_drop (left : List Nat) (l : List LitD) (i : Nat) (h : i < l.length) : leftFrom left (l.drop i) i = if left.contains i then some l[i] else leftFrom left (l.drop (i + 1)) (i + 1) := by
  rw [List.drop_eq_getElem_cons h]; rfl
/-- the order, what is bound, the place and the error -/
def orderE (l : List LitD) : List Nat × List ByteArray × Int × Int × Int :=
  match leftFrom (oEnd l).left l 0 with
  | none => ((oEnd l).row, (oEnd l).names, 0, 0, 0)
  | some x => ([], [], x.line, x.col, 71)
def encO (r : List Nat × List ByteArray × Int × Int × Int) : AV := .tup [.rd 1 (ints r.1), .rd 1 (texts r.2.1), .agg [ival r.2.2.1, ival r.2.2.2.1], ival r.2.2.2.2]
end Go.Sl
