/- Each operation, by its translation. -/
import Derived.Test.YtdobngcdgkallaaGreatDoorAwPb
set_option linter.unusedSimpArgs false
set_option linter.unusedVariables false
set_option linter.unusedSectionVars false
namespace Go.Aw
variable [GL]
variable {P : Program} {C : Ctx} {V : View} {a : Act} {w : World} {fz : Fz} {ρ : Ren} {o : Oper} {Q : Exit → Act → World → Prop}

/-- what is taken is not the slot itself -/
def srcNot (d : Option Nat) : Operand → Bool
 | .tmp t => decide (d ≠ some t)
 | _ => true
def okDst (N : Nat) (d : Option Nat) (ao : AOp) : Bool :=
 (match d with | some i => decide (i < N) | none => true) &&
 (match ao with
  | .copy _ x => srcNot d x
  | .store _ _ _ v => srcNot d v
  | .app _ _ _ s _ => srcNot d s
  | .apps _ _ s _ => srcNot d s
  | _ => true)

theorem srcNot_spec {d : Option Nat} {x : Operand} (h : srcNot d x = true) : ∀ t, x = .tmp t → d ≠ some t := by
 intro t e; subst e; simpa [srcNot] using h

theorem trCall_sound (h : SimE C V a w fz ρ) {c : Call} (hop : o.op = .call c) {ao : AOp} (htr : trCall P c = some ao) {cr : Res} {ef : Eff} (he : effOf P cr o.dst ao V = some ef) (hob : ef.ob) (hd : ∀ i, o.dst = some i → i < C.N)
  (hN : okDst C.N o.dst ao = true) : Sound P C V a w o ef := by
 obtain ⟨cal, args, ats⟩ := c
 have hg : ∀ l b k, V.filt l b = some k → V.hp b = some k := fun l b k hh => filt_some hh
 cases cal with
 | value f =>
  simp only [trCall, Option.some.injEq] at htr; subst htr
  exact sound_call (cr := cr) (g := V.filt cr.us) h hop (hg _) (fun b hb hn => by have := List.contains_iff_mem.1 hb; simpa [View.filt, this] using hn) (by simpa [effOf, act, AOp.opds, touched] using he) hob hd
 | invoke r m => simp [trCall] at htr
 | builtin b =>
  cases b with
  | len =>
   simp only [trCall] at htr
   split at htr
   ·rename_i x t hx ht
    have hargs : args = #[x] := by apply Array.toList_inj.1; simpa using hx
    have hats : ats = #[t] := by apply Array.toList_inj.1; simpa using ht
    subst hargs; subst hats
    split at htr
    ·rename_i e hu
     cases htr
     exact sound_len h hop (.inl ⟨rfl, e, hu⟩) (hg _) (by simpa [effOf, act, AOp.opds] using he) hd
    ·rename_i hu
     cases htr
     exact sound_len h hop (.inr (.inl ⟨rfl, hu⟩)) (hg _) (by simpa [effOf, act, AOp.opds] using he) hd
    ·rename_i k e hu
     cases htr
     exact sound_len h hop (.inr (.inr ⟨rfl, k, e, hu⟩)) (hg _) (by simpa [effOf, act, AOp.opds] using he) hd
    ·cases htr
   ·cases htr
  | max =>
   simp only [trCall] at htr
   split at htr
   ·rename_i x y hx
    have hargs : args = #[x, y] := by apply Array.toList_inj.1; simpa using hx
    subst hargs
    cases htr
    exact sound_mm (mx := true) h hop (by simpa [effOf, act, AOp.opds] using he) hd
   ·rename_i x y z u hx
    have hargs : args = #[x, y, z, u] := by apply Array.toList_inj.1; simpa using hx
    subst hargs
    cases htr
    exact sound_mx4 h hop (by simpa [effOf, act, AOp.opds] using he) hd
   ·cases htr
  | min =>
   simp only [trCall] at htr
   split at htr
   ·rename_i x y hx
    have hargs : args = #[x, y] := by apply Array.toList_inj.1; simpa using hx
    subst hargs
    cases htr
    exact sound_mm (mx := false) h hop (by simpa [effOf, act, AOp.opds] using he) hd
   ·cases htr
  | delete =>
   simp only [trCall] at htr
   split at htr
   ·rename_i x k t u hx ht
    have hargs : args = #[x, k] := by apply Array.toList_inj.1; simpa using hx
    have hats : ats = #[t, u] := by apply Array.toList_inj.1; simpa using ht
    subst hargs; subst hats
    split at htr
    ·rename_i kt e hu
     split at htr
     ·rename_i kd hkd
      cases htr
      exact sound_del h hop hu hkd (hg _) (by simpa [effOf, act, AOp.opds] using he) hob hd
     ·cases htr
    ·cases htr
   ·cases htr
  | append =>
   simp only [trCall] at htr
   split at htr
   ·rename_i s x t u hx ht
    have hargs : args = #[s, x] := by apply Array.toList_inj.1; simpa using hx
    have hats : ats = #[t, u] := by apply Array.toList_inj.1; simpa using ht
    subst hargs; subst hats
    split at htr
    ·rename_i htu
     subst htu
     split at htr
     ·rename_i e hu
      split at htr
      ·rename_i i hi
       split at htr
       ·rename_i z hz
        split at htr
        ·rename_i hzs
         cases htr
         simp only [okDst, Bool.and_eq_true] at hN
         exact sound_app h hop hu hi hz hzs.1 hzs.2 (by simpa [effOf, act, AOp.opds] using he) hob hd (srcNot_spec hN.2)
        ·cases htr
       ·cases htr
      ·cases htr
     ·cases htr
    ·split at htr
     ·rename_i e hu hus
      split at htr
      ·rename_i i hi
       split at htr
       ·rename_i z hz
        split at htr
        ·rename_i hzs
         cases htr
         simp only [okDst, Bool.and_eq_true] at hN
         exact sound_apps h hop hu hus hi hz hzs.1 hzs.2.1 hzs.2.2 (by simpa [effOf, act, AOp.opds] using he) hob hd (srcNot_spec hN.2)
        ·cases htr
       ·cases htr
      ·cases htr
     ·cases htr
   ·cases htr
  | _ => simp [trCall] at htr

theorem op_sound (h : SimE C V a w fz ρ) {tk : Bool} {ao : AOp} (htr : tr P tk o.op = some ao) {cr : Res} {ef : Eff} (he : effOf P cr o.dst ao V = some ef) (hob : ef.ob) (hN : okDst C.N o.dst ao = true) : Sound P C V a w o ef := by
 have hg : ∀ l b k, V.filt l b = some k → V.hp b = some k := fun l b k hh => filt_some hh
 have hd : ∀ i, o.dst = some i → i < C.N := by
  intro i hi
  simp only [okDst, hi, Bool.and_eq_true, decide_eq_true_eq] at hN
  exact hN.1
 have hnew : ∀ us d vals, o.dst = some d → (∀ us d vals, touched us d ao vals = d.toList) → V.filt (touched us o.dst ao vals) d = V.hp d := by
  intro us d vals hdst ht
  rw [hdst, ht]; simp [View.filt]
 cases hop : o.op <;> rw [hop] at htr <;> simp only [tr] at htr <;> try (cases htr; done)
 case move x =>
  cases htr
  simp only [okDst, Bool.and_eq_true] at hN
  exact sound_copy h (.inl hop) he hd (srcNot_spec hN.2)
 case assign x =>
  cases htr
  simp only [okDst, Bool.and_eq_true] at hN
  exact sound_copy h (.inr hop) he hd (srcNot_spec hN.2)
 case alloc e =>
  split at htr
  ·rename_i z hz
   cases htr
   simp only [effOf, act] at he
   split at he
   ·rename_i hone
    exact sound_alloc h hop hz (fun d hdst => hnew cr.us d _ hdst (fun _ _ _ => rfl)) hone he hd
   ·cases he
  ·cases htr
 case box e x =>
  cases htr
  exact sound_box h hop (fun d hdst => hnew cr.us d _ hdst (fun _ _ _ => rfl)) he hd
 case build t ps =>
  split at htr
  ·rename_i it fields hit hu
   split at htr
   ·rename_i z places hz hpl
    split at htr
    ·rename_i hone
     split at htr
     ·rename_i l hl
      cases htr
      exact sound_build h hop (fun parts => by simp [Program.built, hit, hu, hz, hpl]) hone hl (by simpa [effOf, act, AOp.opds, Function.comp_def] using he) hd
     ·cases htr
    ·cases htr
   ·cases htr
  ·rename_i it n e hit hu
   split at htr
   ·rename_i z ie hz hie
    split at htr
    ·rename_i hone
     split at htr
     ·rename_i l hl
      cases htr
      exact sound_build h hop (fun parts => by simp [Program.built, hit, hu, hz, hie]) hone hl (by simpa [effOf, act, AOp.opds, Function.comp_def] using he) hd
     ·cases htr
    ·cases htr
   ·cases htr
  ·cases htr
 case buildSlice t n ps =>
  split at htr
  ·rename_i e hu
   split at htr
   ·rename_i wd z hw hz
    cases htr
    obtain ⟨i, zv, hi, hzz, rfl⟩ := zeroC_some hz
    have hwi : i.size = wd := by simpa [szOf, hi] using hw
    subst hwi
    simp only [effOf, act, AOp.opds, List.map_map] at he
    split at he
    ·rename_i hn
     subst hn
     exact sound_bslice0 h hop hu hi he hd
    ·exact sound_bslice h hop hu hi hzz he hd
   ·cases htr
  ·cases htr
 case load t x =>
  split at htr
  ·rename_i ag n hag hn
   cases htr
   exact sound_load h hop hag hn (hg _) he hd
  ·cases htr
 case store t x v =>
  split at htr
  ·rename_i n hn
   cases htr
   simp only [okDst, Bool.and_eq_true] at hN
   exact sound_store h hop hn (hg _) he hd (srcNot_spec hN.2)
  ·cases htr
 case binOp op t x y u =>
  have hEq : ∀ neg, op = (if neg then .neq else .eql) → trEq P neg op t x y = some ao → Sound P C V a w o ef := by
   intro neg hneg htr
   simp only [trEq] at htr
   split at htr
   ·rename_i fields hu
    split at htr
    ·rename_i hc
     split at htr
     ·rename_i ks hks
      cases htr
      exact sound_eqg h hneg hop hu hc.1 hc.2 hks he hd
     ·cases htr
    ·cases htr
   ·rename_i hu
    cases htr
    exact sound_eqb h hneg hop hu he hd
   ·cases htr; exact sound_bin h hop he hob hd
   ·cases htr; exact sound_bin h hop he hob hd
   ·rename_i kt e hu
    split at htr
    ·cases htr
     exact sound_isnil h hneg hop hu he hd
    ·cases htr
   ·cases htr
  cases op with
  | eql => exact hEq false rfl htr
  | neq => exact hEq true rfl htr
  | _ => cases htr; exact sound_bin h hop he hob hd
 case unOp op t x =>
  cases htr
  exact sound_un h hop he hd
 case convert s t x =>
  split at htr
  ·rename_i k0 k hs ht
   cases htr
   exact sound_conv h hop hs ht he hd
  ·cases htr
 case makeFunc fn first caps =>
  split at htr
  ·rename_i hf
   have : first = #[] := by simpa using hf
   subst this
   split at htr
   ·cases htr
    simp only [effOf, act, Option.some.injEq] at he
    subst he
    exact sound_mkf h hop hd
   ·cases htr
  ·split at htr
   ·rename_i hc
    have : caps = #[] := by simpa using hc
    subst this
    split at htr
    ·cases htr
     simp only [effOf, act, Option.some.injEq] at he
     subst he
     exact sound_mkb h hop hd
    ·cases htr
   ·cases htr
 case makeMap t r =>
  split at htr
  ·rename_i k e hu
   cases htr
   exact sound_mkmap h hop hu (fun d hdst => hnew cr.us d _ hdst (fun _ _ _ => rfl)) he hd
  ·cases htr
 case makeSlice t l c =>
  split at htr
  ·rename_i e hu
   split at htr
   ·rename_i i hi
    split at htr
    ·rename_i z hz
     cases htr
     exact sound_mksl h hop hu hi hz (fun d hdst => hnew cr.us d _ hdst (fun _ _ _ => rfl)) he hob hd
    ·cases htr
   ·cases htr
  ·cases htr
 case slice t x lo hi mx =>
  split at htr
  ·rename_i e hu
   split at htr
   ·rename_i wd hw
    cases htr
    exact sound_sub h hop hu hw he hob hd
   ·cases htr
  ·rename_i hu
   split at htr
   ·cases htr
   ·rename_i hmx
    cases htr
    have : mx = none := by cases mx <;> simp_all
    subst this
    exact sound_subs h hop hu he hob hd
  ·cases htr
 case fieldAddr s x f =>
  split at htr
  ·rename_i fields hu
   split at htr
   ·rename_i fd hf
    split at htr
    ·rename_i n hn
     split at htr
     ·cases htr
     ·rename_i hn0
      cases htr
      exact sound_fad h hop hu hf hn hn0 he hd
    ·cases htr
   ·cases htr
  ·cases htr
 case field t x f =>
  split at htr
  ·rename_i fields hu
   split at htr
   ·rename_i fd hf
    split at htr
    ·rename_i n ag hn hag
     cases htr
     exact sound_fld h hop hu hf hn hag he hd
    ·cases htr
   ·cases htr
  ·cases htr
 case indexAddr t x i =>
  split at htr
  ·rename_i e hu
   split at htr
   ·rename_i wd hw
    split at htr
    ·cases htr
    ·cases htr
     exact sound_iad h hop hu hw he hob hd
   ·cases htr
  ·cases htr
 case index t x i =>
  split at htr
  ·rename_i hu
   cases htr
   exact sound_idxs h hop hu he hob hd
  ·cases htr
 case lookup t x k ok =>
  split at htr
  ·rename_i key e hu
   split at htr
   ·rename_i kd i hk hi
    split at htr
    ·rename_i z hz
     cases htr
     exact sound_lkp h hop hu hk hi hz (hg _) he hob hd
    ·cases htr
   ·cases htr
  ·cases htr
 case mapUpdate t m k v =>
  split at htr
  ·rename_i key e hu
   split at htr
   ·rename_i kd hk
    cases htr
    exact sound_mupd h (.inl hop) hu hk (hg _) he hob hd
   ·cases htr
  ·cases htr
 case insert t m k v =>
  split at htr
  ·rename_i key e hu
   split at htr
   ·rename_i kd hk
    cases htr
    exact sound_mupd h (.inr hop) hu hk (hg _) he hob hd
   ·cases htr
  ·cases htr
 case extract x i =>
  cases htr
  exact sound_ext h hop he hd
 case pick c x y =>
  cases htr
  exact sound_pick h hop he hd
 case call c => exact trCall_sound h hop htr he hob hd hN

theorem opX_sound (h : SimE C V a w fz ρ) {ao : AOp} (htr : trX P o.op = some ao) {cr : Res} {ef : Eff} (he : effOf P cr o.dst ao V = some ef) (hob : ef.ob) (hN : okDst C.N o.dst ao = true) : Sound P C V a w o ef := by
 have hd : ∀ i, o.dst = some i → i < C.N := by
  intro i hi
  simp only [okDst, hi, Bool.and_eq_true, decide_eq_true_eq] at hN
  exact hN.1
 cases hop : o.op <;> rw [hop] at htr <;> simp only [trX] at htr <;> try (cases htr; done)
 case nilCheck x =>
  cases htr
  exact sound_nck h hop (by simpa [effOf, act, AOp.opds, aX1] using he) hd
 case convert s t x =>
  split at htr
  ·rename_i e hs ht
   split at htr
   ·rename_i hu
    cases htr
    exact sound_s2b h hop hs hu ht (by simpa [effOf, act, AOp.opds, aX1] using he) hd
   ·cases htr
  ·rename_i e hs ht
   split at htr
   ·rename_i hu
    cases htr
    exact sound_b2s h hop hs hu ht (by simpa [effOf, act, AOp.opds, aX1] using he) hd
   ·cases htr
  ·cases htr
 case binOp op t x y u =>
  split at htr
  ·rename_i e ht
   split at htr
   ·cases htr
    exact sound_snil h (neg := false) rfl hop ht (by simpa [effOf, act, AOp.opds, aX1] using he) hd
   ·cases htr
    exact sound_snil h (neg := true) rfl hop ht (by simpa [effOf, act, AOp.opds, aX1] using he) hd
   ·cases htr
  ·rename_i e ht
   split at htr
   ·cases htr
    exact sound_pnil h (neg := false) rfl hop ht (by simpa [effOf, act, AOp.opds, aX1] using he) hd
   ·cases htr
    exact sound_pnil h (neg := true) rfl hop ht (by simpa [effOf, act, AOp.opds, aX1] using he) hd
   ·cases htr
  ·cases htr
 case indexAddr t x i =>
  split at htr
  ·rename_i n e ht
   split at htr
   ·rename_i wd hwd
    split at htr
    ·cases htr
    ·cases htr
     exact sound_iada h hop ht hwd (by simpa [effOf, act, AOp.opds] using he) hob hd
   ·cases htr
  ·cases htr
theorem opN_sound (h : SimE C V a w fz ρ) {tk : Bool} {ao : AOp} (htr : trN P tk o.op = some ao) {cr : Res} {ef : Eff} (he : effOf P cr o.dst ao V = some ef) (hob : ef.ob) (hN : okDst C.N o.dst ao = true) : Sound P C V a w o ef := by
 unfold trN at htr
 split at htr
 ·rename_i ao' hx
  cases htr
  exact opX_sound h hx he hob hN
 ·exact op_sound h htr he hob hN
end Go.Aw
