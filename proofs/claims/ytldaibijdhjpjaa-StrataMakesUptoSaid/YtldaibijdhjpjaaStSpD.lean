/- What Rests of the reference comes to. -/
import Derived.Test.YtldaibijdhjpjaaAwV
import Derived.Test.YtldaibijdhjpjaaStSpC
set_option linter.unusedSimpArgs false
set_option linter.unusedVariables false
namespace Go.St
open Go.Aw
def ints (l : List Nat) : List (List AV) := l.map fun (x : Nat) => [AV.val (.int .i64 (x : Int))]
def encRow : List Nat → AV
  | [] => .val (.slice none 0 0)
  | x :: l => .own 3 1 (ints (x :: l))
theorem encRow_cons (x : Nat) (l : List Nat) : encRow (x :: l) = .own 3 1 (ints (x :: l)) := rfl
/-- numbers, and lists of numbers, as they are read -/
def encInts (l : List Nat) : AV := .rd 1 (ints l)
def encRows (l : List (List Nat)) : AV := .rd 1 (l.map fun row => [encInts row])
theorem encRow_wk : ∀ l, Wk (encRow l) (encInts l)
  | [] => .nil 1
  | x :: l => .own (WkR.map fun _ _ => .refl _)
@[simp] theorem encRow_within (ids : List Nat) (l : List Nat) : within ids (encRow l) = true := by cases l <;> rfl
@[simp] theorem encRow_noref (l : List Nat) : noref (encRow l) = true := by cases l <;> rfl
def rStep (on : List Bool) (n a b : Nat) (out : List (List Nat)) : List (List Nat) := if on.getD (a * n + b) false then out.set a (out.getD a [] ++ [b]) else out
def rRow (on : List Bool) (n a : Nat) (out : List (List Nat)) : List (List Nat) := itr (rStep on n a) n out
def restsL (on : List Bool) (n : Nat) : List (List Nat) := itr (rRow on n) n (List.replicate n [])
theorem rStep_len (on : List Bool) (n a b k : Nat) (x : List (List Nat)) (h : x.length = k) : (rStep on n a b x).length = k := by unfold rStep; split <;> simp [h]
theorem rRow_len (on : List Bool) (n a k j : Nat) (x : List (List Nat)) (h : x.length = k) : (itr (rStep on n a) j x).length = k :=
  itr_inv (p := fun x => x.length = k) j (fun _ _ x hx => rStep_len _ _ _ _ _ x hx) j (Nat.le_refl _) x h
theorem rRows_len (on : List Bool) (n k j : Nat) (x : List (List Nat)) (h : x.length = k) : (itr (rRow on n) j x).length = k :=
  itr_inv (p := fun x => x.length = k) j (fun _ _ x hx => rRow_len _ _ _ _ _ x hx) j (Nat.le_refl _) x h
def restsE (m : MMod) : List (List Nat) × PosE := if (checkE m).2 = 0 then (restsL (closed m) m.rels.length, okE) else ([], checkE m)
def encRests (r : List (List Nat) × PosE) : AV := .tup [encRows r.1, encPos r.2.1, ival r.2.2]
-- no row grows beyond its rounds
def shortRows (k : Nat) (out : List (List Nat)) : Prop := ∀ r ∈ out, r.length ≤ k
theorem rStep_short (on : List Bool) (n a b k : Nat) (x : List (List Nat)) (h : shortRows k x) : shortRows (k + 1) (rStep on n a b x) := by
  unfold rStep
  split
  · intro r hr
    rcases List.mem_or_eq_of_mem_set hr with h1 | h1
    · have := h r h1; omega
    · subst h1
      by_cases ha : a < x.length
      · have := h _ (List.getElem_mem ha)
        rw [List.getD_eq_getElem?_getD, List.getElem?_eq_getElem ha]; simp; omega
      · rw [List.getD_eq_getElem?_getD, List.getElem?_eq_none (by omega)]; simp
  · intro r hr; have := h r hr; omega
theorem rRow_short (on : List Bool) (n a k : Nat) (x : List (List Nat)) : ∀ j, shortRows k x → shortRows (k + j) (itr (rStep on n a) j x)
  | 0, h => h
  | j + 1, h => rStep_short _ _ _ _ _ _ (rRow_short on n a k x j h)
theorem restsL_short (on : List Bool) (n : Nat) : ∀ (j : Nat), n ≤ 30 → shortRows (30 * j) (itr (rRow on n) j (List.replicate n []))
  | 0, _ => by intro r hr; rw [List.eq_of_mem_replicate hr]; simp
  | j + 1, hn => by
    intro r hr
    have := rRow_short on n j (30 * j) _ n (restsL_short on n j hn) r hr
    omega
end Go.St
