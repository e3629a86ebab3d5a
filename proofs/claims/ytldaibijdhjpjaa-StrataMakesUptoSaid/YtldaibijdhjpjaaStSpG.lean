/- What rests of the program comes to: what is reached, by a search. -/
import Derived.Test.YtldaibijdhjpjaaStSpF
set_option linter.unusedSimpArgs false
set_option linter.unusedVariables false
namespace Go.St
open Go.Aw
/-- a graph whose numbers are in range -/
structure Graph.ok (g : Graph) : Prop where
  n : g.n ≤ 30
  len : g.edges.length = g.heads.length
  rules : g.heads.length ≤ 300
  heads : ∀ h ∈ g.heads, h < g.n
  elen : ∀ es ∈ g.edges, es.length ≤ 300
  tos : ∀ es ∈ g.edges, ∀ e ∈ es, e.to < g.n
def nxStep (h : Nat) (out : List (List Nat)) (e : Edge) : List (List Nat) := out.set h (out.getD h [] ++ [e.to])
def nxRule (g : Graph) (k : Nat) (out : List (List Nat)) : List (List Nat) := (g.edges.getD k []).foldl (nxStep (g.heads.getD k 0)) out
def nextOf (g : Graph) : List (List Nat) := itr (nxRule g) g.heads.length (List.replicate g.n [])
theorem nxStep_len (h k : Nat) : ∀ (l : List Edge), ∀ b ∈ l, ∀ x : List (List Nat), x.length = k → (nxStep h x b).length = k := by
  intro l b _ x hx; simp [nxStep, hx]
theorem nxStep_short (h k : Nat) (e : Edge) (x : List (List Nat)) (hx : shortRows k x) : shortRows (k + 1) (nxStep h x e) := by
  intro r hr
  rcases List.mem_or_eq_of_mem_set hr with h1 | h1
  · have := hx r h1; omega
  · subst h1
    by_cases ha : h < x.length
    · have := hx _ (List.getElem_mem ha)
      rw [List.getD_eq_getElem?_getD, List.getElem?_eq_getElem ha]; simp; omega
    · rw [List.getD_eq_getElem?_getD, List.getElem?_eq_none (by omega)]; simp
theorem nxFold_short (h : Nat) : ∀ (l : List Edge) (k : Nat) (x : List (List Nat)), shortRows k x → shortRows (k + l.length) (l.foldl (nxStep h) x)
  | [], _, _, hx => hx
  | e :: l, k, x, hx => by
    have := nxFold_short h l (k + 1) _ (nxStep_short h k e x hx)
    rw [List.foldl_cons, List.length_cons, show k + (l.length + 1) = k + 1 + l.length by omega]; exact this
def inRange (n : Nat) (out : List (List Nat)) : Prop := ∀ r ∈ out, ∀ y ∈ r, y < n
theorem nxStep_in {n h : Nat} {e : Edge} {x : List (List Nat)} (hx : inRange n x) (he : e.to < n) : inRange n (nxStep h x e) := by
  intro r hr y hy
  rcases List.mem_or_eq_of_mem_set hr with h1 | h1
  · exact hx r h1 y hy
  · subst h1
    rcases List.mem_append.1 hy with h2 | h2
    · by_cases ha : h < x.length
      · rw [List.getD_eq_getElem?_getD, List.getElem?_eq_getElem ha] at h2
        exact hx _ (List.getElem_mem ha) y h2
      · rw [List.getD_eq_getElem?_getD, List.getElem?_eq_none (by omega)] at h2; simp at h2
    · simp at h2; omega
theorem nxFold_in {n h : Nat} : ∀ (l : List Edge) (x : List (List Nat)), (∀ e ∈ l, e.to < n) → inRange n x → inRange n (l.foldl (nxStep h) x)
  | [], _, _, hx => hx
  | e :: l, x, he, hx => nxFold_in l _ (fun e' h' => he e' (by simp [h'])) (nxStep_in hx (he e (by simp)))
theorem nxFold_len (h : Nat) : ∀ (l : List Edge) (x : List (List Nat)), (l.foldl (nxStep h) x).length = x.length
  | [], _ => rfl
  | e :: l, x => by rw [List.foldl_cons, nxFold_len h l]; simp [nxStep]

/-- what one comes to by one edge or more -/
inductive Reach (next : List (List Nat)) : Nat → Nat → Prop
  | one {x y : Nat} : y ∈ next.getD x [] → Reach next x y
  | step {x y z : Nat} : Reach next x y → z ∈ next.getD y [] → Reach next x z
/-- the search, under way: what is marked, and what is still to be looked at -/
structure Srch (next : List (List Nat)) (n i : Nat) (row : List Bool) (todo : List Nat) : Prop where
  len : row.length = n
  tin : ∀ y ∈ todo, y < n
  mark : ∀ y, row[y]? = some true → Reach next i y
  todoR : ∀ y ∈ todo, y = i ∨ row[y]? = some true
  clo : ∀ x, (x = i ∨ row[x]? = some true) → x ∉ todo → ∀ y ∈ next.getD x [], row[y]? = some true
open Classical in
noncomputable def reachRow (next : List (List Nat)) (n i : Nat) : List Bool := (List.range n).map fun y => decide (Reach next i y)
theorem Srch.done {next : List (List Nat)} {n i : Nat} {row : List Bool} (h : Srch next n i row []) : row = reachRow next n i := by
  have key : ∀ y, Reach next i y → row[y]? = some true := by
    intro y hy
    induction hy with
    | one h1 => exact h.clo _ (.inl rfl) (by simp) _ h1
    | step _ h2 ih => exact h.clo _ (.inr ih) (by simp) _ h2
  apply List.ext_getElem
  · simp [reachRow, h.len]
  · intro y h1 h2
    simp only [reachRow, List.getElem_map, List.getElem_range]
    by_cases hr : Reach next i y
    · have := key y hr
      rw [List.getElem?_eq_getElem h1] at this
      simp [hr]; exact Option.some.inj this
    · have : ¬ row[y]? = some true := fun e => hr (h.mark y e)
      rw [List.getElem?_eq_getElem h1] at this
      simp [hr]
      cases hb : row[y] with
      | true => exact absurd (by rw [hb]) this
      | false => rfl
theorem count_set : ∀ (row : List Bool) (y : Nat), row[y]? = some false → (row.set y true).count false + 1 = row.count false
  | [], y, h => by simp at h
  | b :: row, 0, h => by
    simp at h; subst h; simp
  | b :: row, y + 1, h => by
    have := count_set row y (by simpa using h)
    simp only [List.set_cons_succ, List.count_cons]
    omega
theorem Srch.init {next : List (List Nat)} {n i : Nat} (hi : i < n) : Srch next n i (List.replicate n false) [i] := by
  have hno : ∀ y : Nat, ¬ (List.replicate n false)[y]? = some true := by
    intro y h
    rw [List.getElem?_replicate] at h
    split at h <;> simp at h
  refine ⟨by simp, by simpa using hi, fun y h => absurd h (hno y), by simp, fun x hx hn => ?_⟩
  rcases hx with rfl | hx
  · simp at hn
  · exact absurd hx (hno x)
/-- the search, x being looked at, as far as k -/
structure SrchP (next : List (List Nat)) (n i x k : Nat) (row : List Bool) (todo : List Nat) : Prop where
  len : row.length = n
  tin : ∀ y ∈ todo, y < n
  mark : ∀ y, row[y]? = some true → Reach next i y
  todoR : ∀ y ∈ todo, y = i ∨ row[y]? = some true
  here : x = i ∨ row[x]? = some true
  part : ∀ y ∈ (next.getD x []).take k, row[y]? = some true
  clo : ∀ x', (x' = i ∨ row[x']? = some true) → x' ∉ todo → x' ≠ x → ∀ y ∈ next.getD x' [], row[y]? = some true
theorem Srch.pop {next : List (List Nat)} {n i x : Nat} {row : List Bool} {todo : List Nat} (h : Srch next n i row (todo ++ [x])) : SrchP next n i x 0 row todo :=
  ⟨h.len, fun y hy => h.tin y (by simp [hy]), h.mark, fun y hy => h.todoR y (by simp [hy]), h.todoR x (by simp), by simp, fun x' h1 h2 h3 => h.clo x' h1 (by simp [h2, h3])⟩
theorem SrchP.old {next : List (List Nat)} {n i x k y : Nat} {row : List Bool} {todo : List Nat} (h : SrchP next n i x k row todo) (hy : (next.getD x [])[k]? = some y) (hr : row[y]? = some true) : SrchP next n i x (k + 1) row todo :=
  ⟨h.len, h.tin, h.mark, h.todoR, h.here, (fun z hz => by
    rw [List.take_add_one, hy] at hz
    rcases List.mem_append.1 hz with h1 | h1
    · exact h.part z h1
    · simp at h1; subst h1; exact hr), h.clo⟩
theorem SrchP.new {next : List (List Nat)} {n i x k y : Nat} {row : List Bool} {todo : List Nat} (h : SrchP next n i x k row todo) (hy : (next.getD x [])[k]? = some y) (hr : row[y]? = some false) : SrchP next n i x (k + 1) (row.set y true) (todo ++ [y]) := by
  have hyn : y < row.length := (List.getElem?_eq_some_iff.1 hr).1
  have hset : ∀ z, (row.set y true)[z]? = some true ↔ (z = y ∨ row[z]? = some true) := by
    intro z
    rw [List.getElem?_set]
    by_cases e : y = z
    · subst e; simp [hyn]
    · have e' : ¬ z = y := fun h => e h.symm
      simp [e, e']
  have hreach : Reach next i y := by
    have hm : y ∈ next.getD x [] := List.mem_of_getElem? hy
    rcases h.here with e | e
    · subst e; exact .one hm
    · exact .step (h.mark x e) hm
  refine ⟨by simp [h.len], fun z hz => ?_, fun z hz => ?_, fun z hz => ?_, ?_, fun z hz => ?_, fun x' h1 h2 h3 z hz => ?_⟩
  · rcases List.mem_append.1 hz with h1 | h1
    · exact h.tin z h1
    · simp at h1; subst h1; rw [← h.len]; exact hyn
  · rcases (hset z).1 hz with e | e
    · subst e; exact hreach
    · exact h.mark z e
  · rcases List.mem_append.1 hz with h1 | h1
    · exact (h.todoR z h1).imp id fun e => (hset z).2 (.inr e)
    · simp at h1; exact .inr ((hset z).2 (.inl h1))
  · exact h.here.imp id fun e => (hset x).2 (.inr e)
  · rw [List.take_add_one, hy] at hz
    rcases List.mem_append.1 hz with h1 | h1
    · exact (hset z).2 (.inr (h.part z h1))
    · simp at h1; exact (hset z).2 (.inl h1)
  · have hx' : x' ∉ todo ∧ x' ≠ y := by simpa using h2
    have hx2 : x' = i ∨ row[x']? = some true := h1.imp id fun e => by
      rcases (hset x').1 e with e | e
      · exact absurd e hx'.2
      · exact e
    exact (hset z).2 (.inr (h.clo x' hx2 hx'.1 h3 z hz))
theorem SrchP.end {next : List (List Nat)} {n i x k : Nat} {row : List Bool} {todo : List Nat} (h : SrchP next n i x k row todo) (hk : (next.getD x []).length ≤ k) : Srch next n i row todo := by
  refine ⟨h.len, h.tin, h.mark, h.todoR, fun x' h1 h2 => ?_⟩
  by_cases e : x' = x
  · subst e
    have := h.part
    rw [List.take_of_length_le hk] at this
    exact this
  · exact h.clo x' h1 h2 e
theorem nextShort (g : Graph) (hg : g.ok) : ∀ (k : Nat), k ≤ g.heads.length → shortRows (300 * k) (itr (nxRule g) k (List.replicate g.n []))
  | 0, _ => by intro r hr; rw [List.eq_of_mem_replicate hr]; simp
  | k + 1, h => by
    have hk : k < g.edges.length := by have := hg.len; omega
    have h1 := nxFold_short (g.heads.getD k 0) (g.edges.getD k []) (300 * k) _ (nextShort g hg k (by omega))
    have h2 : (g.edges.getD k []).length ≤ 300 := by
      rw [List.getD_eq_getElem?_getD, List.getElem?_eq_getElem hk]
      exact hg.elen _ (List.getElem_mem hk)
    intro r hr
    have := h1 r hr
    omega
theorem nextIn (g : Graph) (hg : g.ok) : ∀ (k : Nat), k ≤ g.heads.length → inRange g.n (itr (nxRule g) k (List.replicate g.n []))
  | 0, _ => by intro r hr; rw [List.eq_of_mem_replicate hr]; simp
  | k + 1, h => by
    have hk : k < g.edges.length := by have := hg.len; omega
    refine nxFold_in _ _ (fun e he => ?_) (nextIn g hg k (by omega))
    rw [List.getD_eq_getElem?_getD, List.getElem?_eq_getElem hk] at he
    exact hg.tos _ (List.getElem_mem hk) e he
theorem nextOf_len (g : Graph) : (nextOf g).length = g.n := itr_inv (p := fun (x : List (List Nat)) => x.length = g.n) g.heads.length (fun _ _ x hx => by unfold nxRule; rw [nxFold_len]; exact hx) _ (Nat.le_refl _) _ (by simp)
end Go.St
