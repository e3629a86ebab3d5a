/- Closed runs: each operation, by its translation. -/
import Derived.Test.YtempphkfacccoaaEvHb
set_option linter.unusedSimpArgs false
set_option linter.unusedVariables false
namespace Go.Ev
open Go.Aw (AOp szOf zeroC isAggT kindsOf kindT partsOf trEq trCall)
variable {P : Program} {C : Ctx} {V : View} {a : Act} {w : World} {ρ ρ' : Ren} {o : Oper} {Q : Exit → Act → World → Prop}

inductive EOp where
  | a (ao : AOp)
  | nilck (x : Operand)
  | appS (e : TypeId) (w bytes : Nat) (s x : Operand)
  | call (f : Operand) (args : List Operand)
  | nils (neg : Bool) (x : Operand)
  deriving Inhabited
def EOp.opds : EOp → List Operand
  | .a ao => ao.opds
  | .nilck x => [x]
  | .appS _ _ _ s x => [s, x]
  | .call f args => f :: args
  | .nils _ x => [x]
def trApp (P : Program) (s x : Operand) (t u : TypeId) : Option EOp :=
  match P.underlying u with
  | some .string => (match P.underlying t with
    | some (.slice e) => match P.info? e with
      | some i => match i.zero with
        | some z => if z.cells.size = i.size ∧ i.size = 1 then some (.appS e i.size i.bytes s x) else none
        | none => none
      | none => none
    | _ => none)
  | _ => none
def trE (P : Program) (op : Op) : Option EOp :=
  match op with
  | .nilCheck x => some (.nilck x)
  | .binOp op t x y u => match nilCmp P op t y with
    | some neg => some (.nils neg x)
    | none => match Aw.tr P false (.binOp op t x y u) with
      | some ao => some (.a ao)
      | none => none
  | .insert t m k v => match P.underlying t with
    | some (.map key _) => match kindT P key with
      | some kd => some (.a (.mupd kd m k v))
      | none => none
    | _ => none
  | .call c => match c.callee with
    | .value f => some (.call f c.args.toList)
    | .builtin .append => match trCall P c with
      | some ao => some (.a ao)
      | none => match c.args.toList, c.argTypes.toList with
        | [s, x], [t, u] => trApp P s x t u
        | _, _ => none
    | _ => match trCall P c with
      | some ao => some (.a ao)
      | none => none
  | op => match Aw.tr P false op with
    | some ao => some (.a ao)
    | none => none

def actA (d : Nat) (ao : AOp) (vals : List EV) (g : Hv) : Option Eff :=
  match ao with
  | .copy _ _ => eCopy vals
  | .box e _ => eBox d e vals
  | .alloc e z => eAlloc d e z
  | .build z ps => eBuild z ps vals
  | .bslice e w z n ps => eBslice d e w z n ((ps.zip vals).map fun (p, v) => (p.1, v))
  | .load n ag _ _ => eLoad n ag g vals
  | .store n _ _ _ => eStore n g vals
  | .bin op _ _ => eBin op vals
  | .eqg neg ks _ _ => eEqg neg ks vals
  | .eqb neg _ _ => eEqb neg vals
  | .un op _ => eUn op vals
  | .conv k _ => eConv k vals
  | .mkf fn _ => some { out := .clo fn vals }
  | .mkmap _ => eMkmap d vals
  | .mksl e w bytes zero _ _ => eMksl d e w bytes zero vals
  | .sub w _ lo hi mx => if mx.isSome && !hi.isSome then none else eSub w lo.isSome hi.isSome mx.isSome vals
  | .subs _ lo hi => eSubs lo.isSome hi.isSome vals
  | .fad off _ => eFad off vals
  | .fld off n ag _ => eFld off n ag vals
  | .iad w _ _ => eIad w vals
  | .idxs _ _ => eIdxs vals
  | .lkp kd z ok _ _ => eLkp kd z ok g vals
  | .mupd kd _ _ _ => eMupd kd g vals
  | .ext _ i => eExt i vals
  | .len kd _ => eLen kd g vals
  | .app e w bytes _ _ => match vals with
    | [sv, xv] => match rowsE g w xv with
      | some new => eApp d e w bytes g new sv
      | none => none
    | _ => none
  | .isnil neg _ => eIsnil neg vals
  | .pick _ _ _ => ePick vals
  | .mm mx _ _ => eMm mx vals
  | .del kd _ _ => eDel kd g vals
  | .call _ _ => none
def actE (d : Nat) (eo : EOp) (vals : List EV) (g : Hv) : Option Eff :=
  match eo with
  | .a ao => actA d ao vals g
  | .nilck _ => eNilck vals
  | .appS e w bytes _ _ => match vals with
    | [sv, .str s l] => eApp d e w bytes g (strRows s l) sv
    | _ => none
  | .call _ _ => none
  | .nils neg _ => eNils neg vals

/-- does it make memory? -/
def freshA : AOp → Bool
  | .box .. | .alloc .. | .bslice .. | .mkmap .. | .mksl .. | .app .. => true
  | _ => false
def readsA : AOp → Bool
  | .load .. | .store .. | .lkp .. | .mupd .. | .len .. | .app .. | .del .. => true
  | _ => false
def EOp.fresh : EOp → Bool
  | .a ao => freshA ao
  | .appS .. => true
  | _ => false
def EOp.reads : EOp → Bool
  | .a ao => readsA ao
  | .appS .. => true
  | _ => false
def EOp.isCall : EOp → Bool
  | .call .. => true
  | _ => false
theorem trCall_sound (h : SimE C V a w ρ) {c : Call} (hop : o.op = .call c) {ao : AOp} (htr : trCall P c = some ao) {d : Nat} (hfr : freshA ao = true → V.hp d = none) {ef : Eff} (he : actA d ao (ao.opds.map V.ev) V.hp = some ef) (hd : ∀ i, o.dst = some i → i < C.N) : Sound P C V a w o ef := by
  obtain ⟨cal, args, ats⟩ := c
  cases cal with
  | value f =>
    simp only [trCall, Option.some.injEq] at htr; subst htr
    simp [actA] at he
  | invoke r m => simp [trCall] at htr
  | builtin b =>
    cases b with
    | len =>
      simp only [trCall] at htr
      split at htr
      · rename_i x t hx ht
        have hargs : args = #[x] := by apply Array.toList_inj.1; simpa using hx
        have hats : ats = #[t] := by apply Array.toList_inj.1; simpa using ht
        subst hargs; subst hats
        split at htr
        · rename_i e hu
          cases htr
          exact sound_len h hop (.inl ⟨rfl, e, hu⟩) he hd
        · rename_i hu
          cases htr
          exact sound_len h hop (.inr (.inl ⟨rfl, hu⟩)) he hd
        · rename_i k e hu
          cases htr
          exact sound_len h hop (.inr (.inr ⟨rfl, k, e, hu⟩)) he hd
        · cases htr
      · cases htr
    | max =>
      simp only [trCall] at htr
      split at htr
      · rename_i x y hx
        have hargs : args = #[x, y] := by apply Array.toList_inj.1; simpa using hx
        subst hargs
        cases htr
        exact sound_mm (mx := true) h hop he hd
      · cases htr
    | min =>
      simp only [trCall] at htr
      split at htr
      · rename_i x y hx
        have hargs : args = #[x, y] := by apply Array.toList_inj.1; simpa using hx
        subst hargs
        cases htr
        exact sound_mm (mx := false) h hop he hd
      · cases htr
    | delete =>
      simp only [trCall] at htr
      split at htr
      · rename_i x k t u hx ht
        have hargs : args = #[x, k] := by apply Array.toList_inj.1; simpa using hx
        have hats : ats = #[t, u] := by apply Array.toList_inj.1; simpa using ht
        subst hargs; subst hats
        split at htr
        · rename_i kt e hu
          split at htr
          · rename_i kd hk
            cases htr
            exact sound_del h hop hu hk he hd
          · cases htr
        · cases htr
      · cases htr
    | append =>
      simp only [trCall] at htr
      split at htr
      · rename_i s x t u hx ht
        have hargs : args = #[s, x] := by apply Array.toList_inj.1; simpa using hx
        have hats : ats = #[t, u] := by apply Array.toList_inj.1; simpa using ht
        subst hargs; subst hats
        split at htr
        · rename_i htu
          subst htu
          split at htr
          · rename_i e hu
            split at htr
            · rename_i i hi
              split at htr
              · rename_i z hz
                split at htr
                · rename_i hzs
                  cases htr
                  simp only [actA, AOp.opds, List.map_cons, List.map_nil] at he
                  split at he
                  · rename_i new hn
                    exact sound_app h hop hu hi hz hzs.1 (rowsE_ok h hn hu) (hfr rfl) he hd
                  · cases he
                · cases htr
              · cases htr
            · cases htr
          · cases htr
        · cases htr
      · cases htr
    | _ => simp [trCall] at htr

theorem opA_sound (h : SimE C V a w ρ) {ao : AOp} (hnc : ∀ c, o.op ≠ .call c) (htr : Aw.tr P false o.op = some ao) {d : Nat} (hfr : freshA ao = true → V.hp d = none) {ef : Eff} (he : actA d ao (ao.opds.map V.ev) V.hp = some ef) (hd : ∀ i, o.dst = some i → i < C.N) : Sound P C V a w o ef := by
  cases hop : o.op <;> rw [hop] at htr <;> simp only [Aw.tr] at htr <;> try (cases htr; done)
  case move x =>
    cases htr
    simp only [actA, AOp.opds, List.map_cons, List.map_nil, eCopy, Option.some.injEq] at he
    subst he
    exact sound_copy h (.inl hop) hd
  case assign x =>
    cases htr
    simp only [actA, AOp.opds, List.map_cons, List.map_nil, eCopy, Option.some.injEq] at he
    subst he
    exact sound_copy h (.inr hop) hd
  case alloc e =>
    split at htr
    · rename_i z hz
      cases htr
      exact sound_alloc h hop hz (hfr rfl) he hd
    · cases htr
  case box e x =>
    cases htr
    exact sound_box h hop (hfr rfl) he hd
  case build t ps =>
    split at htr
    · rename_i it fields hit hu
      split at htr
      · rename_i z places hz hpl
        split at htr
        · rename_i hone
          split at htr
          · rename_i l hl
            cases htr
            exact sound_build h hop (fun parts => by simp [Program.built, hit, hu, hz, hpl]) hone hl (by simpa [actA, AOp.opds, Function.comp_def] using he) hd
          · cases htr
        · cases htr
      · cases htr
    · rename_i it n e hit hu
      split at htr
      · rename_i z ie hz hie
        split at htr
        · rename_i hone
          split at htr
          · rename_i l hl
            cases htr
            exact sound_build h hop (fun parts => by simp [Program.built, hit, hu, hz, hie]) hone hl (by simpa [actA, AOp.opds, Function.comp_def] using he) hd
          · cases htr
        · cases htr
      · cases htr
    · cases htr
  case buildSlice t n ps =>
    split at htr
    · rename_i e hu
      split at htr
      · rename_i wd z hw hz
        cases htr
        obtain ⟨i, zv, hi, hzz, rfl⟩ := Aw.zeroC_some hz
        have hwi : i.size = wd := by simpa [szOf, hi] using hw
        subst hwi
        exact sound_bslice h hop hu hi hzz (hfr rfl) (by simpa [actA, AOp.opds, List.map_map, Aw.zip_map_self, Function.comp_def] using he) hd
      · cases htr
    · cases htr
  case load t x =>
    split at htr
    · rename_i ag n hag hn
      cases htr
      exact sound_load h hop hag hn he hd
    · cases htr
  case store t x v =>
    split at htr
    · rename_i n hn
      cases htr
      exact sound_store h hop hn he hd
    · cases htr
  case binOp op t x y u =>
    have hEq : ∀ neg, op = (if neg then .neq else .eql) → trEq P neg op t x y = some ao → Sound P C V a w o ef := by
      intro neg hneg htr
      simp only [trEq] at htr
      split at htr
      · rename_i fields hu
        split at htr
        · rename_i hc
          split at htr
          · rename_i ks hks
            cases htr
            exact sound_eqg h hneg hop hu hc.1 hc.2 hks he hd
          · cases htr
        · cases htr
      · rename_i hu
        cases htr
        exact sound_eqb h hneg hop hu he hd
      · cases htr; exact sound_bin h hop he hd
      · cases htr; exact sound_bin h hop he hd
      · rename_i kt e hu
        split at htr
        · cases htr
          exact sound_isnil h hneg hop hu he hd
        · cases htr
      · cases htr
    cases op with
    | eql => exact hEq false rfl htr
    | neq => exact hEq true rfl htr
    | _ => cases htr; exact sound_bin h hop he hd
  case unOp op t x =>
    cases htr
    exact sound_un h hop he hd
  case convert s t x =>
    split at htr
    · rename_i k0 k hs ht
      cases htr
      exact sound_conv h hop hs ht he hd
    · cases htr
  case makeFunc fn first caps =>
    split at htr
    · rename_i hf
      cases htr
      have : first = #[] := by simpa using hf
      subst this
      simp only [actA, AOp.opds, Option.some.injEq] at he
      subst he
      exact sound_mkf h hop hd
    · cases htr
  case makeMap t r =>
    split at htr
    · rename_i k e hu
      cases htr
      exact sound_mkmap h hop hu (hfr rfl) he hd
    · cases htr
  case makeSlice t l c =>
    split at htr
    · rename_i e hu
      split at htr
      · rename_i i hi
        split at htr
        · rename_i z hz
          cases htr
          exact sound_mksl h hop hu hi hz (hfr rfl) he hd
        · cases htr
      · cases htr
    · cases htr
  case slice t x lo hi mx =>
    split at htr
    · rename_i e hu
      split at htr
      · rename_i wd hw
        cases htr
        simp only [actA] at he
        split at he
        · cases he
        · rename_i hmh
          exact sound_sub h hop hu hw (fun e => by cases hi <;> simp_all) he hd
      · cases htr
    · rename_i hu
      split at htr
      · cases htr
      · rename_i hmx
        cases htr
        have : mx = none := by cases mx <;> simp_all
        subst this
        exact sound_subs h hop hu he hd
    · cases htr
  case fieldAddr s x f =>
    split at htr
    · rename_i fields hu
      split at htr
      · rename_i fd hf
        split at htr
        · rename_i n hn
          split at htr
          · cases htr
          · rename_i hn0
            cases htr
            exact sound_fad h hop hu hf hn hn0 he hd
        · cases htr
      · cases htr
    · cases htr
  case field t x f =>
    split at htr
    · rename_i fields hu
      split at htr
      · rename_i fd hf
        split at htr
        · rename_i n ag hn hag
          cases htr
          exact sound_fld h hop hu hf hn hag he hd
        · cases htr
      · cases htr
    · cases htr
  case indexAddr t x i =>
    split at htr
    · rename_i e hu
      split at htr
      · rename_i wd hw
        split at htr
        · cases htr
        · cases htr
          exact sound_iad h hop hu hw he hd
      · cases htr
    · cases htr
  case index t x i =>
    split at htr
    · rename_i hu
      cases htr
      exact sound_idxs h hop hu he hd
    · cases htr
  case lookup t x k ok =>
    split at htr
    · rename_i key e hu
      split at htr
      · rename_i kd i hk hi
        split at htr
        · rename_i z hz
          cases htr
          exact sound_lkp h hop hu hk hi hz he hd
        · cases htr
      · cases htr
    · cases htr
  case mapUpdate t m k v =>
    split at htr
    · rename_i key e hu
      split at htr
      · rename_i kd hk
        cases htr
        exact sound_mupd h (.inl hop) hu hk he hd
      · cases htr
    · cases htr
  case extract x i =>
    cases htr
    exact sound_ext h hop he hd
  case pick c x y =>
    cases htr
    exact sound_pick h hop he hd
  case call c => exact absurd hop (hnc c)

theorem op_sound (h : SimE C V a w ρ) {eo : EOp} (htr : trE P o.op = some eo) {d : Nat} (hfr : eo.fresh = true → V.hp d = none) {ef : Eff} (he : actE d eo (eo.opds.map V.ev) V.hp = some ef) (hd : ∀ i, o.dst = some i → i < C.N) : Sound P C V a w o ef := by
  have base : (∀ c, o.op ≠ .call c) → (match Aw.tr P false o.op with | some ao => some (EOp.a ao) | none => none) = some eo → Sound P C V a w o ef := by
    intro hnc hh
    split at hh
    · rename_i ao hao
      cases hh
      exact opA_sound h hnc hao hfr he hd
    · cases hh
  cases hop : o.op with
  | nilCheck x =>
    rw [hop] at htr
    simp only [trE, Option.some.injEq] at htr
    subst htr
    exact sound_nilck h hop he hd
  | binOp op t x y u =>
    rw [hop] at htr
    simp only [trE] at htr
    split at htr
    · rename_i neg hn
      obtain ⟨rfl, ⟨e, hu⟩, hneg⟩ := nilCmp_some hn
      cases htr
      exact sound_nils h hneg hop hu he hd
    · exact base (by rw [hop]; intro c e; cases e) (by rw [hop]; exact htr)
  | insert t m k v =>
    rw [hop] at htr
    simp only [trE] at htr
    split at htr
    · rename_i key e hu
      split at htr
      · rename_i kd hk
        cases htr
        exact sound_mupd h (.inr hop) hu hk he hd
      · cases htr
    · cases htr
  | call c =>
    rw [hop] at htr
    simp only [trE] at htr
    split at htr
    · cases htr; simp [actE] at he
    · rename_i hcal
      split at htr
      · rename_i ao hao
        cases htr
        exact trCall_sound h hop hao hfr he hd
      · split at htr
        · rename_i s x t u hx ht
          obtain ⟨cal, args, ats⟩ := c
          simp only at hcal hx ht
          subst hcal
          have hargs : args = #[s, x] := by apply Array.toList_inj.1; simpa using hx
          have hats : ats = #[t, u] := by apply Array.toList_inj.1; simpa using ht
          subst hargs; subst hats
          simp only [trApp] at htr
          split at htr
          · rename_i hus
            split at htr
            · rename_i e hu
              split at htr
              · rename_i i hi
                split at htr
                · rename_i z hz
                  split at htr
                  · rename_i hzs
                    cases htr
                    simp only [actE, EOp.opds, List.map_cons, List.map_nil] at he
                    split at he
                    · rename_i sv s' l' heq
                      simp only [List.cons.injEq, and_true] at heq
                      have hx' := h.ev x
                      rw [heq.2] at hx'
                      simp only [Holds] at hx'
                      rw [← heq.1] at he
                      exact sound_app h hop hu hi hz hzs.1 (by rw [hx'.1, hzs.2]; exact strRows_ok hus) (hfr rfl) he hd
                    · cases he
                  · cases htr
                · cases htr
              · cases htr
            · cases htr
          · cases htr
        · cases htr
    · split at htr
      · rename_i ao hao
        cases htr
        exact trCall_sound h hop hao hfr he hd
      · cases htr
  | _ => exact base (by rw [hop]; intro c e; cases e) (by rw [hop] at htr ⊢; exact htr)

/-- the blocks that are named at the top -/
def idsE : List EV → List Nat
  | [] => []
  | .ptr b _ _ :: l => b :: idsE l
  | .sl b _ _ _ _ _ :: l => b :: idsE l
  | .mp b :: l => b :: idsE l
  | _ :: l => idsE l
theorem rowsE_congr {g g' : Hv} {wd : Nat} {x : EV} {l : List EV} (hx : x ∈ l) (h : ∀ b ∈ idsE l, g b = g' b) : rowsE g wd x = rowsE g' wd x := by
  have key : ∀ {b wd' i n cap ex}, x = .sl b wd' i n cap ex → b ∈ idsE l := by
    rintro b wd' i n cap ex rfl
    clear h
    induction l with
    | nil => simp at hx
    | cons y l ih =>
      rcases List.mem_cons.1 hx with rfl | hx
      · simp [idsE]
      · have := ih hx
        cases y <;> simp [idsE, this]
  cases x with
  | sl b wd' i n cap ex => simp only [rowsE, h b (key rfl)]
  | lit v => cases v <;> first | rfl | (rename_i a n c; cases a <;> cases n <;> cases c <;> rfl)
  | _ => rfl
theorem eApp_congr {g g' : Hv} {d : Nat} {e : TypeId} {wd bytes : Nat} {new : List (List EV)} {x : EV} {l : List EV} (h : ∀ b ∈ idsE (x :: l), g b = g' b) : eApp d e wd bytes g new x = eApp d e wd bytes g' new x := by
  cases x with
  | sl b wd' i n cap ex => simp only [eApp, h b (by simp [idsE])]
  | lit v => cases v <;> first | rfl | (rename_i a n c; cases a <;> cases n <;> cases c <;> rfl)
  | _ => rfl
theorem actE_congr {d : Nat} {eo : EOp} {vals : List EV} {g g' : Hv} (h : eo.reads = true → ∀ b ∈ idsE vals, g b = g' b) : actE d eo vals g = actE d eo vals g' := by
  cases eo with
  | nilck x => rfl
  | nils neg x => rfl
  | call f args => rfl
  | appS e w bytes s x =>
    replace h := h rfl
    simp only [actE]
    split
    · exact eApp_congr h
    · rfl
  | a ao =>
    cases ao with
    | load n ag tk x =>
      replace h := h rfl
      simp only [actE, actA, eLoad]
      split
      · rw [h _ (by simp [idsE])]
      · rfl
    | store n tk x v =>
      replace h := h rfl
      simp only [actE, actA, eStore]
      split
      · rw [h _ (by simp [idsE])]
      · rfl
    | lkp kd z ok x k =>
      replace h := h rfl
      simp only [actE, actA, eLkp]
      split
      · rw [h _ (by simp [idsE])]
      · rfl
      · rfl
    | mupd kd x k v =>
      replace h := h rfl
      simp only [actE, actA, eMupd]
      split
      · rw [h _ (by simp [idsE])]
      · rfl
    | del kd x k =>
      replace h := h rfl
      simp only [actE, actA, eDel]
      split
      · rw [h _ (by simp [idsE])]
      · rfl
    | len kd x =>
      replace h := h rfl
      simp only [actE, actA, eLen]
      split <;> first | rfl | (rw [h _ (by simp [idsE])])
    | app e w bytes s x =>
      replace h := h rfl
      simp only [actE, actA]
      split
      · rename_i sv xv
        rw [rowsE_congr (x := xv) (by simp) h]
        split
        · exact eApp_congr h
        · rfl
      · rfl
    | _ => rfl
end Go.Ev
