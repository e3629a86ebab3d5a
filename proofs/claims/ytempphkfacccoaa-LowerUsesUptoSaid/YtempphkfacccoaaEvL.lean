/- Closed runs: regions, run. -/
import Derived.Test.YtempphkfacccoaaEvK
set_option linter.unusedSimpArgs false
set_option linter.unusedVariables false
namespace Go.Ev
open Go.Aw (edgesOf)
variable {P : Program} {C : Ctx} {a : Act} {w : World} {ops : Array Oper} {Q : Exit → Act → World → Prop}

structure XOp where
  dst : Option Nat
  op : EOp
  guard : Option (Nat × Bool)
  kill : List Nat
  deriving Inhabited
def Hp.view (H : Hp) : Hv := H.t.get
abbrev Fn' := FuncId → List EV → Hp → Option (EV × Hp)
def FOK (P : Program) (F : Fn') : Prop := ∀ f args H v H' R, F f args H = some (v, H') → HOK H.t.get H.nx R →
  CallOK P f args H.t.get v H'.t.get ∧ HOK H'.t.get H'.nx R ∧ H.nx ≤ H'.nx ∧ (∀ b, b < H.nx → H.t.get b = none → H'.t.get b = none)
def skipV : EV := .lit (.tuple #[])
inductive Inf where
  | mem (tb : List Nat) (upd : List (Nat × EBlk))
  | call (D : List Nat) (H0 H1 : Tr EBlk)
def tbE (eo : EOp) (d : Nat) (vals : List EV) : List Nat := (if eo.fresh then [d] else []) ++ (if eo.reads then idsE vals else [])
def opX (F : Fn') (x : XOp) (base d : Nat) (E : Env) (H : Hp) : Option (EV × Hp × Inf) :=
  match x.op with
  | .call f args => match calleeE (ev E f) with
    | some (fid, caps) => match F fid (args.map (ev E) ++ caps) ⟨H.t.kills (x.kill.map (base + ·)), H.nx⟩ with
      | some (v, H') => some (v, ⟨H'.t.wipes (x.kill.map (base + ·)), H'.nx⟩, .call (x.kill.map (base + ·)) H.t H'.t)
      | none => none
    | none => none
  | eo => match actE d eo (eo.opds.map (ev E)) H.t.get with
    | some ef => some (ef.out, ⟨H.t.sets ef.upd, H.nx⟩, .mem (tbE eo d (eo.opds.map (ev E))) ef.upd)
    | none => none
def opG (F : Fn') (x : XOp) (base d : Nat) (E : Env) (H : Hp) : Option (EV × Hp × Inf) :=
  match x.guard with
  | none => opX F x base d E H
  | some (t, want) => match gt E t with
    | .bool b => match b == want with
      | true => opX F x base d E H
      | false => some (skipV, H, .mem [] [])
    | .lit (.tuple _) => some (skipV, H, .mem [] [])
    | _ => none
def semReg (F : Fn') (base : Nat) : List XOp → Nat → Env → Hp → Option (Env × Hp)
  | [], _, E, H => some (E, H)
  | x :: L, d, E, H => match opG F x base d E H with
    | some (v, H', _) => semReg F base L (d + 1) (putE E x.dst v) H'
    | none => none
def infs (F : Fn') (base : Nat) : List XOp → Nat → Env → Hp → List Inf
  | [], _, _, _ => []
  | x :: L, d, E, H => match opG F x base d E H with
    | some (v, H', i) => i :: infs F base L (d + 1) (putE E x.dst v) H'
    | none => []

theorem calls_notact {eo : EOp} {d : Nat} {vals : List EV} {g : Hv} {ef : Eff} (h : actE d eo vals g = some ef) : ∀ f args, eo ≠ .call f args := by
  rintro f args rfl; cases h

/-- what an operation writes has a name, or gets one -/
theorem actE_names {d : Nat} {eo : EOp} {vals : List EV} {g : Hv} {ef : Eff} {R : Nat → Prop} (hal : ∀ x k, g x = some k → ∀ b ∈ k.al, g b ≠ none ∧ ¬ R b) (hres : ∀ b, R b → g b = some .dead) (h : actE d eo vals g = some ef) :
    ∀ b k, (b, k) ∈ ef.upd → ((b = d ∧ eo.fresh = true) ∨ (g b ≠ none ∧ ¬ R b)) ∧ ∀ c ∈ k.al, g c ≠ none ∧ ¬ R c := by
  have lv : ∀ {b k}, g b = some k → k ≠ .dead → g b ≠ none ∧ ¬ R b := by
    intro b k hb hk
    refine ⟨by rw [hb]; simp, fun hr => ?_⟩
    rw [hres b hr] at hb; cases hb; exact hk rfl
  have app : ∀ {e wd bytes new x} {ef : Eff}, eApp d e wd bytes g new x = some ef → ∀ b k, (b, k) ∈ ef.upd → (b = d ∨ (g b ≠ none ∧ ¬ R b)) ∧ ∀ c ∈ k.al, g c ≠ none ∧ ¬ R c := by
    intro e wd bytes new x ef he b k hm
    unfold eApp at he
    split at he
    · split at he
      · cases he; simp at hm
      · split at he
        · cases he; simp at hm; obtain ⟨rfl, rfl⟩ := hm; exact ⟨.inl rfl, by simp [EBlk.al]⟩
        · cases he
    · split at he
      · split at he
        · cases he; simp at hm
        · split at he
          · split at he
            · rename_i hb
              split at he
              · cases he
                simp only [List.mem_cons, Prod.mk.injEq, List.mem_map] at hm
                rcases hm with ⟨rfl, rfl⟩ | ⟨c, hc, rfl, rfl⟩
                · exact ⟨.inr (lv hb (by simp)), by simp [EBlk.al]⟩
                · exact ⟨.inr (hal _ _ hb c hc), by simp [EBlk.al]⟩
              · cases he
            · cases he
          · split at he
            · split at he
              · split at he
                · cases he; simp at hm; obtain ⟨rfl, rfl⟩ := hm; exact ⟨.inl rfl, by simp [EBlk.al]⟩
                · cases he
              · split at he
                · split at he
                  · cases he; simp at hm; obtain ⟨rfl, rfl⟩ := hm; exact ⟨.inl rfl, by simp [EBlk.al]⟩
                  · cases he
                · cases he
              · split at he
                · rename_i hb
                  split at he
                  · cases he
                    simp only [List.mem_cons, Prod.mk.injEq, List.not_mem_nil, or_false] at hm
                    rcases hm with ⟨rfl, rfl⟩ | ⟨rfl, rfl⟩
                    · refine ⟨.inl rfl, fun c hc => ?_⟩
                      simp only [EBlk.al, List.mem_cons] at hc
                      rcases hc with rfl | hc
                      · exact lv hb (by simp)
                      · exact hal _ _ hb c hc
                    · exact ⟨.inr (lv hb (by simp)), fun c hc => hal _ _ hb c hc⟩
                  · cases he
                · cases he
            · cases he
      · cases he
    · cases he
  intro b k hm
  cases eo with
  | nilck x => simp only [actE, eNilck] at h; split at h <;> first | (cases h; simp at hm; done) | cases h
  | call f args => cases h
  | nils neg x => simp only [actE, eNils] at h; split at h <;> first | (cases h; simp at hm; done) | cases h
  | appS e w bytes s x =>
    simp only [actE] at h
    split at h
    · have := app h b k hm; exact ⟨this.1.imp (fun e => ⟨e, rfl⟩) id, this.2⟩
    · cases h
  | a ao =>
    cases ao with
    | app e w bytes s x =>
      simp only [actE, actA] at h
      split at h
      · split at h
        · have := app h b k hm; exact ⟨this.1.imp (fun e => ⟨e, rfl⟩) id, this.2⟩
        · cases h
      · cases h
    | box e x =>
      simp only [actE, actA, eBox] at h
      repeat' split at h
      all_goals first | (cases h; done) | (cases h; simp at hm; obtain ⟨rfl, rfl⟩ := hm; exact ⟨.inl ⟨rfl, rfl⟩, by simp [EBlk.al]⟩)
    | alloc e z =>
      simp only [actE, actA, eAlloc] at h
      repeat' split at h
      all_goals first | (cases h; done) | (cases h; simp at hm; obtain ⟨rfl, rfl⟩ := hm; exact ⟨.inl ⟨rfl, rfl⟩, by simp [EBlk.al]⟩)
    | bslice e w z n ps =>
      simp only [actE, actA, eBslice] at h
      repeat' split at h
      all_goals first | (cases h; done) | (cases h; simp at hm; obtain ⟨rfl, rfl⟩ := hm; exact ⟨.inl ⟨rfl, rfl⟩, by simp [EBlk.al]⟩)
    | mkmap r =>
      simp only [actE, actA, eMkmap] at h
      repeat' split at h
      all_goals first | (cases h; done) | (cases h; simp at hm; obtain ⟨rfl, rfl⟩ := hm; exact ⟨.inl ⟨rfl, rfl⟩, by simp [EBlk.al]⟩)
    | mksl e w bytes z l c =>
      simp only [actE, actA, eMksl] at h
      repeat' split at h
      all_goals first | (cases h; done) | (cases h; simp at hm; obtain ⟨rfl, rfl⟩ := hm; exact ⟨.inl ⟨rfl, rfl⟩, by simp [EBlk.al]⟩)
    | store n tk x v =>
      simp only [actE, actA, eStore] at h
      split at h
      · split at h
        · rename_i hb
          split at h
          · split at h
            · cases h
              simp only [List.mem_cons, Prod.mk.injEq, List.mem_map] at hm
              rcases hm with ⟨rfl, rfl⟩ | ⟨c, hc, rfl, rfl⟩
              · exact ⟨.inr (lv hb (by simp)), by simp [EBlk.al]⟩
              · exact ⟨.inr (hal _ _ hb c hc), by simp [EBlk.al]⟩
            · cases h
          · cases h
        · cases h
      · cases h
    | mupd kd x k' v =>
      simp only [actE, actA, eMupd] at h
      split at h
      · split at h
        · rename_i hb
          split at h
          · split at h
            · cases h
              simp at hm; obtain ⟨rfl, rfl⟩ := hm
              exact ⟨.inr (lv hb (by simp)), by simp [EBlk.al]⟩
            · cases h
          · cases h
        · cases h
      · cases h
    | lkp kd z ok x k' =>
      simp only [actE, actA, eLkp] at h
      repeat' split at h
      all_goals first | (cases h; done) | (cases h; simp only [lkpE] at hm; first | (simp at hm; done) | (split at hm <;> simp at hm))
    | load n ag tk x => simp only [actE, actA, eLoad] at h; repeat' split at h
                        all_goals first | (cases h; done) | (cases h; simp at hm)
    | copy tk x => simp only [actE, actA, eCopy] at h; repeat' split at h
                   all_goals first | (cases h; done) | (cases h; simp at hm)
    | build z ps => simp only [actE, actA, eBuild] at h; repeat' split at h
                    all_goals first | (cases h; done) | (cases h; simp at hm)
    | bin op x y => simp only [actE, actA, eBin] at h; repeat' split at h
                    all_goals first | (cases h; done) | (cases h; simp at hm)
    | eqg neg ks x y => simp only [actE, actA, eEqg] at h; repeat' split at h
                        all_goals first | (cases h; done) | (cases h; simp at hm)
    | eqb neg x y => simp only [actE, actA, eEqb] at h; repeat' split at h
                     all_goals first | (cases h; done) | (cases h; simp at hm)
    | un op x => simp only [actE, actA, eUn] at h; repeat' split at h
                 all_goals first | (cases h; done) | (cases h; simp at hm)
    | conv k x => simp only [actE, actA, eConv] at h; repeat' split at h
                  all_goals first | (cases h; done) | (cases h; simp at hm)
    | mkf fn caps => simp only [actE, actA] at h; cases h; simp at hm
    | sub w' x lo hi mx =>
      simp only [actE, actA] at h
      split at h
      · cases h
      · simp only [eSub] at h
        repeat' split at h
        all_goals first | (cases h; done) | (cases h; simp at hm)
    | subs x lo hi => simp only [actE, actA, eSubs] at h; repeat' split at h
                      all_goals first | (cases h; done) | (cases h; simp at hm)
    | fad off x => simp only [actE, actA, eFad] at h; repeat' split at h
                   all_goals first | (cases h; done) | (cases h; simp at hm)
    | fld off n ag x => simp only [actE, actA, eFld] at h; repeat' split at h
                        all_goals first | (cases h; done) | (cases h; simp at hm)
    | iad w' x i => simp only [actE, actA, eIad] at h; repeat' split at h
                    all_goals first | (cases h; done) | (cases h; simp at hm)
    | idxs x i => simp only [actE, actA, eIdxs] at h; repeat' split at h
                  all_goals first | (cases h; done) | (cases h; simp at hm)
    | ext x i => simp only [actE, actA, eExt] at h; repeat' split at h
                 all_goals first | (cases h; done) | (cases h; simp at hm)
    | len kd x => simp only [actE, actA, eLen] at h; repeat' split at h
                  all_goals first | (cases h; done) | (cases h; simp at hm)
    | isnil neg x => simp only [actE, actA, eIsnil] at h; repeat' split at h
                     all_goals first | (cases h; done) | (cases h; simp at hm)
    | pick c x y => simp only [actE, actA, ePick] at h; repeat' split at h
                    all_goals first | (cases h; done) | (cases h; simp at hm)
    | mm mx x y => simp only [actE, actA, eMm] at h; repeat' split at h
                   all_goals first | (cases h; done) | (cases h; simp at hm)
    | del kd x k' =>
      simp only [actE, actA, eDel] at h
      split at h
      · split at h
        · rename_i hb
          split at h
          · split at h
            · cases h
              simp at hm; obtain ⟨rfl, rfl⟩ := hm
              exact ⟨.inr (lv hb (by simp)), by simp [EBlk.al]⟩
            · cases h
          · cases h
        · cases h
      · cases h
    | call f args => simp only [actE, actA] at h; cases h
end Go.Ev
