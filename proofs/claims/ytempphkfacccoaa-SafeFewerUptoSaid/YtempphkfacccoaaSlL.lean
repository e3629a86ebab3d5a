/- SafeFewer: a program that is taken is taken without any of its rules, and of its nevers. -/
import Derived.Test.YtempphkfacccoaaSlK
set_option linter.unusedSimpArgs false
set_option linter.unusedVariables false
open Go Go.Aw Go.Proofs
namespace Go.Sl
set_option maxHeartbeats 4000000 in
theorem fewer_ok (m : ModD) (part : Int) (hm : ModLit m) : Con Try.prog 5 [encM m, ival part] (bval true) := by
  have hlg := large_ok m hm
  refine Con.of_code Try.func5 (by kernel_rfl) rfl (by simp [Try.ntmps5]) fun C hC hM => ?_
  refine AWp.seq ?_
  refine AWp.reg [false, true] F5r0 [] (by kernel_rfl) (by rw [hC]; rfl) fun K hK => ?_
  simp [F5r0, encM, modC]
  first | refine hK _ ?_ | refine ⟨by omega, hK _ ?_⟩ | refine ⟨by omega, by omega, hK _ ?_⟩ | refine ⟨by omega, by omega, by omega, hK _ ?_⟩ | refine ⟨by omega, by omega, by omega, by omega, hK _ ?_⟩
  refine AWp.seq ?_
  refine AWp.seq ?_
  cases hL : largeE m with
  | true =>
    rw [hL] at hlg
    refine AWp.reg [] F5r1 [{ r := bval true }] (by kernel_rfl) (by rw [hC]; rfl) fun K hK => ?_
    simp [F5r1, encM, modC]
    refine ⟨callOK rfl hlg, hK _ ?_⟩
    refine AWp.cond true (by simp) (fun _ => ?_) (fun he => by cases he)
    refine AWp.seq ?_
    refine AWp.reg [false, true] F5r2 [{ r := bval true }] (by kernel_rfl) (by rw [hC]; rfl) fun K hK => ?_
    simp [F5r2]
    refine ⟨callOK rfl awake_ok, hK _ ?_⟩
    repeat refine AWp.seq ?_
    refine AWp.ret ⟨.inr rfl, _, by simp [Try.results5] <;> rfl, ?_⟩
    exact .closed rfl
  | false =>
    rw [hL] at hlg
    obtain ⟨hok, h60⟩ := small_ok hL
    have hch := Check_ok m hok
    have hfew := fun (m' : ModD) hr hn => fewer (m := m) (m' := m') hr hn
    obtain ⟨⟨cl, cc, ce⟩, hce⟩ : ∃ p, checkE m = p := ⟨_, rfl⟩
    rw [hce] at hch
    have hce2 : (checkE m).2.2 = ce := by rw [hce]
    rw [hce2] at hfew
    refine AWp.reg [] F5r1 [{ r := bval false }, { r := bval true }] (by kernel_rfl) (by rw [hC]; rfl) fun K hK => ?_
    simp [F5r1, encM, modC]
    refine ⟨callOK rfl hlg, callOK rfl awake_ok, hK _ ?_⟩
    refine AWp.cond false (by simp) (fun he => by cases he) (fun _ => ?_)
    refine AWp.skip ?_
    refine AWp.seq ?_
    refine AWp.reg [false, false, false, false, false, false, true, true] F5r3 [{ r := encC (cl, cc, ce) }] (by kernel_rfl) (by rw [hC]; rfl) fun K hK => ?_
    simp [F5r3, encM, modC, encC]
    refine ⟨callOK rfl hch, hK _ ?_⟩
    refine AWp.seq ?_
    refine AWp.reg [false, false, false, false, false, false, false, true] F5r4 [] (by kernel_rfl) (by rw [hC]; rfl) fun K hK => ?_
    simp [F5r4, modC]
    first | refine hK _ ?_ | refine ⟨by omega, hK _ ?_⟩ | refine ⟨by omega, by omega, hK _ ?_⟩ | refine ⟨by omega, by omega, by omega, hK _ ?_⟩ | refine ⟨by omega, by omega, by omega, by omega, hK _ ?_⟩
    refine AWp.seq ?_
    by_cases he : ce = 0
    · have hwn : IntKind.i64.wrap ((m.rules.length : Int) + (m.nevers.length : Int)) = ((m.rules.length + m.nevers.length : Nat) : Int) := by rw [wrap_in (by omega) (by omega)]; omega
      subst he
      obtain ⟨n, hn⟩ : ∃ n, m.rules.length + m.nevers.length = n := ⟨_, rfl⟩
      rw [hn] at hwn
      have hnI : (m.rules.length : Int) + (m.nevers.length : Int) = (n : Int) := by omega
      by_cases hz : n = 0
      · subst hz
        refine AWp.seq ?_
        refine AWp.reg [] F5r5 [] (by kernel_rfl) (by rw [hC]; rfl) fun K hK => ?_
        simp [F5r5, hwn]
        first | refine hK _ ?_ | refine ⟨by omega, hK _ ?_⟩ | refine ⟨by omega, by omega, hK _ ?_⟩ | refine ⟨by omega, by omega, by omega, hK _ ?_⟩ | refine ⟨by omega, by omega, by omega, by omega, hK _ ?_⟩
        refine AWp.cond true (by simp) (fun _ => ?_) (fun he => by cases he)
        refine AWp.seq ?_
        refine AWp.reg [true] F5r6 [] (by kernel_rfl) (by rw [hC]; rfl) fun K hK => ?_
        simp [F5r6]
        first | refine hK _ ?_ | refine ⟨by omega, hK _ ?_⟩ | refine ⟨by omega, by omega, hK _ ?_⟩ | refine ⟨by omega, by omega, by omega, hK _ ?_⟩ | refine ⟨by omega, by omega, by omega, by omega, hK _ ?_⟩
        repeat refine AWp.seq ?_
        refine AWp.ret ⟨.inr rfl, _, by simp [Try.results5] <;> rfl, ?_⟩
        exact .closed rfl
      · obtain ⟨hz', k, hk, hkw⟩ := draw_ok part n (by omega) (by omega)
        refine AWp.seq ?_
        refine AWp.reg [] F5r5 [] (by kernel_rfl) (by rw [hC]; rfl) fun K hK => ?_
        simp [F5r5, hwn, hz]
        first | refine hK _ ?_ | refine ⟨by omega, hK _ ?_⟩ | refine ⟨by omega, by omega, hK _ ?_⟩ | refine ⟨by omega, by omega, by omega, hK _ ?_⟩ | refine ⟨by omega, by omega, by omega, by omega, hK _ ?_⟩
        refine AWp.cond false (by simp [hz]) (fun he => by cases he) (fun _ => ?_)
        refine AWp.skip ?_
        refine AWp.seq ?_
        refine AWp.reg [false, false, false, false, false, false, true] F5r7 [] (by kernel_rfl) (by rw [hC]; rfl) fun K hK => ?_
        simp [F5r7, hwn, hz']
        refine hK _ ?_
        refine AWp.seq ?_
        refine AWp.seq ?_
        refine AWp.reg [] F5r8 [] (by kernel_rfl) (by rw [hC]; rfl) fun K hK => ?_
        simp [F5r8, hkw, modC]
        first | refine hK _ ?_ | refine ⟨by omega, hK _ ?_⟩ | refine ⟨by omega, by omega, hK _ ?_⟩ | refine ⟨by omega, by omega, by omega, hK _ ?_⟩ | refine ⟨by omega, by omega, by omega, by omega, hK _ ?_⟩
        by_cases hkr : k < m.rules.length
        · have hwk := wrap_nat k (by omega)
          refine AWp.cond true (by simp [hkr]) (fun _ => ?_) (fun he => by cases he)
          refine AWp.regD ops_mixed [false, false, false, false, false, false, false, false, false, false, false, false, false, true] F5r9 [] (by kernel_rfl) (by rw [hC]; rfl) rfl (fun K hK => ?_) (by simp [F5r9, modC, hkw, hwk] <;> rfl)
          simp [F5r9, modC, hkw, hwk]
          refine ⟨by omega, ⟨by omega, by omega⟩, ⟨by omega, by omega⟩, ⟨by omega, by omega⟩, hK _ ?_⟩
          have hmem : ∀ r ∈ m.rules.take k ++ m.rules.drop (k + 1), r ∈ m.rules := fun r h => (mem_cut hkr r).2 (.inr h)
          have hz := hfew { m with rules := m.rules.take k ++ m.rules.drop (k + 1) } hmem (fun _ h => h) rfl
          have hch2 := Check_ok { m with rules := m.rules.take k ++ m.rules.drop (k + 1) } (hok.fewer hmem (fun _ h => h) (by simp; omega) (Nat.le_refl _))
          obtain ⟨⟨dl, dc, de⟩, hde⟩ : ∃ p, checkE { m with rules := m.rules.take k ++ m.rules.drop (k + 1) } = p := ⟨_, rfl⟩
          rw [hde] at hch2 hz
          simp only at hz
          subst hz
          simp only [encM, modC, List.map_append, List.map_take, List.map_drop] at hch2
          refine AWp.seq ?_
          refine AWp.reg [false, false, false, false, false, true] F5r12 [{ r := encC (dl, dc, 0) }] (by kernel_rfl) (by rw [hC]; rfl) fun K hK => ?_
          simp [F5r12, encC]
          refine ⟨callOK rfl hch2, hK _ ?_⟩
          refine AWp.seq ?_
          refine AWp.reg [false, false, true] F5r13 [] (by kernel_rfl) (by rw [hC]; rfl) fun K hK => ?_
          simp [F5r13]
          first | refine hK _ ?_ | refine ⟨by omega, hK _ ?_⟩ | refine ⟨by omega, by omega, hK _ ?_⟩ | refine ⟨by omega, by omega, by omega, hK _ ?_⟩ | refine ⟨by omega, by omega, by omega, by omega, hK _ ?_⟩
          repeat refine AWp.seq ?_
          refine AWp.ret ⟨.inr rfl, _, by simp [Try.results5] <;> rfl, ?_⟩
          exact .closed rfl
        · have hkI : ¬ (k : Int) < (m.rules.length : Int) := by omega
          have hws : IntKind.i64.wrap ((k : Int) - (m.rules.length : Int)) = ((k - m.rules.length : Nat) : Int) := by rw [wrap_in (by omega) (by omega)]; omega
          obtain ⟨j, hj⟩ : ∃ j, k - m.rules.length = j := ⟨_, rfl⟩
          rw [hj] at hws
          have hjn : j < m.nevers.length := by omega
          have hwj := wrap_nat j (by omega)
          refine AWp.cond false (by simp [hkr]) (fun he => by cases he) (fun _ => ?_)
          refine AWp.seq ?_
          refine AWp.reg [false, false, false, false, false, true] F5r10 [] (by kernel_rfl) (by rw [hC]; rfl) fun K hK => ?_
          simp [F5r10, modC, hws]
          refine hK _ ?_
          refine AWp.regD ops_mixed [false, false, false, false, false, false, false, false, false, false, false, false, false, true] F5r11 [] (by kernel_rfl) (by rw [hC]; rfl) rfl (fun K hK => ?_) (by simp [F5r11, modC, hwj] <;> rfl)
          simp [F5r11, modC, hwj]
          refine ⟨by omega, ⟨by omega, by omega⟩, ⟨by omega, by omega⟩, ⟨by omega, by omega⟩, hK _ ?_⟩
          have hmem : ∀ r ∈ m.nevers.take j ++ m.nevers.drop (j + 1), r ∈ m.nevers := fun r h => (mem_cut hjn r).2 (.inr h)
          have hz := hfew { m with nevers := m.nevers.take j ++ m.nevers.drop (j + 1) } (fun _ h => h) hmem rfl
          have hch2 := Check_ok { m with nevers := m.nevers.take j ++ m.nevers.drop (j + 1) } (hok.fewer (fun _ h => h) hmem (Nat.le_refl _) (by simp; omega))
          obtain ⟨⟨dl, dc, de⟩, hde⟩ : ∃ p, checkE { m with nevers := m.nevers.take j ++ m.nevers.drop (j + 1) } = p := ⟨_, rfl⟩
          rw [hde] at hch2 hz
          simp only at hz
          subst hz
          simp only [encM, modC, List.map_append, List.map_take, List.map_drop] at hch2
          refine AWp.seq ?_
          refine AWp.reg [false, false, false, false, false, true] F5r12 [{ r := encC (dl, dc, 0) }] (by kernel_rfl) (by rw [hC]; rfl) fun K hK => ?_
          simp [F5r12, encC]
          refine ⟨callOK rfl hch2, hK _ ?_⟩
          refine AWp.seq ?_
          refine AWp.reg [false, false, true] F5r13 [] (by kernel_rfl) (by rw [hC]; rfl) fun K hK => ?_
          simp [F5r13]
          first | refine hK _ ?_ | refine ⟨by omega, hK _ ?_⟩ | refine ⟨by omega, by omega, hK _ ?_⟩ | refine ⟨by omega, by omega, by omega, hK _ ?_⟩ | refine ⟨by omega, by omega, by omega, by omega, hK _ ?_⟩
          repeat refine AWp.seq ?_
          refine AWp.ret ⟨.inr rfl, _, by simp [Try.results5] <;> rfl, ?_⟩
          exact .closed rfl
    · have hb : (ce != 0) = true := by simpa using he
      refine AWp.seq ?_
      refine AWp.reg [] F5r5 [] (by kernel_rfl) (by rw [hC]; rfl) fun K hK => ?_
      simp [F5r5, hb]
      first | refine hK _ ?_ | refine ⟨by omega, hK _ ?_⟩ | refine ⟨by omega, by omega, hK _ ?_⟩ | refine ⟨by omega, by omega, by omega, hK _ ?_⟩ | refine ⟨by omega, by omega, by omega, by omega, hK _ ?_⟩
      refine AWp.cond true (by simp [he]) (fun _ => ?_) (fun he => by cases he)
      refine AWp.seq ?_
      refine AWp.reg [true] F5r6 [] (by kernel_rfl) (by rw [hC]; rfl) fun K hK => ?_
      simp [F5r6]
      first | refine hK _ ?_ | refine ⟨by omega, hK _ ?_⟩ | refine ⟨by omega, by omega, hK _ ?_⟩ | refine ⟨by omega, by omega, by omega, hK _ ?_⟩ | refine ⟨by omega, by omega, by omega, by omega, hK _ ?_⟩
      repeat refine AWp.seq ?_
      refine AWp.ret ⟨.inr rfl, _, by simp [Try.results5] <;> rfl, ?_⟩
      exact .closed rfl
end Go.Sl
