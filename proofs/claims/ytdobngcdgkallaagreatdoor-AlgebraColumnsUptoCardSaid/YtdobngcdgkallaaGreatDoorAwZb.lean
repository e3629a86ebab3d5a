/- Regions in whatever order, long ones: what comes before what is handed over as a list, and checked. -/
import Derived.Test.YtdobngcdgkallaaGreatDoorAwZ
set_option linter.unusedSimpArgs false
set_option linter.unusedVariables false
set_option linter.unusedSectionVars false
namespace Go.Aw
variable [GL]
variable {P : Program} {C : Ctx} {ops : Array Oper}
theorem reachL_pre : ∀ (L : List ROp) (acc : List (List Nat)) (e : Nat), e < acc.length → (reachL L acc).getD e [] = acc.getD e []
 | [], _, _, _ => rfl
 | r :: L, acc, e, he => by
  simp only [reachL]
  rw [reachL_pre L _ e (by simp; omega), List.getD_eq_getElem?_getD, List.getElem?_append_left he, ← List.getD_eq_getElem?_getD]
theorem reachL_at : ∀ (L : List ROp) (acc : List (List Nat)) (i : Nat) (r : ROp), L[i]? = some r → (∀ e ∈ r.after, e < acc.length + i) →
  ∀ k, (k ∈ r.after ∨ ∃ e ∈ r.after, k ∈ (reachL L acc).getD e []) → k ∈ (reachL L acc).getD (acc.length + i) []
 | [], _, _, _, h, _ => by simp at h
 | x :: L, acc, 0, r, h, hb => by
  simp at h
  subst h
  intro k hk
  simp only [reachL] at hk ⊢
  have e0 : (reachL L (acc ++ [x.after ++ x.after.flatMap (fun e => acc.getD e [])])).getD (acc.length + 0) [] = x.after ++ x.after.flatMap (fun e => acc.getD e []) := by
   rw [reachL_pre L _ _ (by simp)]
   simp [List.getD_eq_getElem?_getD]
  rw [e0]
  rcases hk with hk | ⟨e, he, hk⟩
  ·exact List.mem_append_left _ hk
  ·refine List.mem_append_right _ (List.mem_flatMap.2 ⟨e, he, ?_⟩)
   have hlt := hb e he
   have hlt' : e < acc.length := by omega
   rwa [reachL_pre L _ e (by simp; omega), List.getD_eq_getElem?_getD, List.getElem?_append_left hlt', ← List.getD_eq_getElem?_getD] at hk
 | x :: L, acc, i + 1, r, h, hb => by
  intro k hk
  simp only [reachL] at hk ⊢
  have := reachL_at L (acc ++ [x.after ++ x.after.flatMap (fun e => acc.getD e [])]) i r (by simpa using h) (fun e he => by have := hb e he; simp; omega) k hk
  rwa [show (acc ++ [x.after ++ x.after.flatMap (fun e => acc.getD e [])]).length + i = acc.length + (i + 1) from by simp; omega] at this
def chkRl (rl : List (List Nat)) : List ROp → List (List Nat) → Bool
 | _, [] => true
 | [], _ :: _ => false
 | r :: L, x :: xs => (x.all fun k => r.after.contains k || r.after.any fun e => (rl.getD e []).contains k) && chkRl rl L xs
theorem chkRl_spec {rl : List (List Nat)} : ∀ (L : List ROp) (xs : List (List Nat)), chkRl rl L xs = true → ∀ (i k : Nat), k ∈ xs.getD i [] → ∃ r, L[i]? = some r ∧ (k ∈ r.after ∨ ∃ e ∈ r.after, k ∈ rl.getD e [])
 | _, [], _, i, k, h => by simp at h
 | [], x :: xs, h, _, _, _ => by simp [chkRl] at h
 | r :: L, x :: xs, h, i, k, hk => by
  simp only [chkRl, Bool.and_eq_true] at h
  cases i with
  | zero =>
   have := List.all_eq_true.1 h.1 k (by simpa using hk)
   simp only [Bool.or_eq_true, List.any_eq_true] at this
   refine ⟨r, rfl, this.imp (fun h => by simpa using h) fun ⟨e, he, h⟩ => ⟨e, he, by simpa using h⟩⟩
  | succ i =>
   obtain ⟨r', h1, h2⟩ := chkRl_spec L xs h.2 i k (by simpa using hk)
   exact ⟨r', by simpa using h1, h2⟩
theorem rl_sound {L : List ROp} {rl : List (List Nat)} (hb : backP L 0 = true) (h : chkRl rl L rl = true) : ∀ (j k : Nat), k ∈ rl.getD j [] → k ∈ (reachL L []).getD j [] := by
 intro j
 induction j using Nat.strongRecOn with
 | ind j ih =>
  intro k hk
  obtain ⟨r, h1, h2⟩ := chkRl_spec L rl h j k hk
  have hbk := fun e he => backP_spec L 0 hb j r h1 e he
  have := reachL_at L [] j r h1 (fun e he => by simpa using hbk e he) k (h2.imp id fun ⟨e, he, h⟩ => ⟨e, he, ih e (by have := hbk e he; omega) k h⟩)
  simpa using this
theorem chkRest_mono {a b : List (List Nat)} (hab : ∀ j k, k ∈ a.getD j [] → k ∈ b.getD j []) (i : Nat) (x : Info) : ∀ (l : List Info) (j : Nat), chkRest a i x l j = true → chkRest b i x l j = true
 | [], _, _ => rfl
 | y :: l, j, h => by
  simp only [chkRest, Bool.and_eq_true, Bool.or_eq_true] at h ⊢
  exact ⟨h.1.imp (fun q => by simpa using hab j i (by simpa using q)) id, chkRest_mono hab i x l (j + 1) h.2⟩
theorem freeP_mono {a b : List (List Nat)} (hab : ∀ j k, k ∈ a.getD j [] → k ∈ b.getD j []) : ∀ (l : List Info) (i : Nat), freeP a l i = true → freeP b l i = true
 | [], _, _ => rfl
 | x :: l, i, h => by
  simp only [freeP, Bool.and_eq_true] at h ⊢
  exact ⟨chkRest_mono hab i x l (i + 1) h.1, freeP_mono hab l (i + 1) h.2⟩
/-- a long region, in whatever order: rl says what comes before what -/
theorem AWp.regL {id : Nat} {Q : Exit → AS → Prop} {s : AS} (hm : P.follows .mixedOrders = true) (rl : List (List Nat)) (tks : List Bool) (L : List ROp) (R : List Res) (hops : trOps P ops tks ops.toList = some L) (hok : okAll C.N L = true) (hback : backP L 0 = true) (hrl : chkRl rl L rl = true)
  (h : ∀ K : AS → Prop, (∀ s', Q .normal s' → K s') → runK P L (alignR L R) s K) (hfree : freeP rl (infosA P L (alignR L R) s) 0 = true) : AWp P C (.region id ops true) Q s :=
 AWp.regD hm tks L R hops hok hback h (freeP_mono (rl_sound hback hrl) _ _ hfree)
end Go.Aw
