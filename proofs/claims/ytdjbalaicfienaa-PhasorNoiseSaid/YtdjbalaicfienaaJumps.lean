/- A scope whose gotos all jump forward: each goes on from its label, and jumps no more. -/
import Derived.WalkMore
import Derived.ScopeJumps
namespace Go.Proofs.Ytdjbalaicfienaa
open Go
section
variable {P : Program} {a : Act} {w : World} {Q : Exit → Act → World → Prop}
/-- as Q; by a goto: what follows the label meets Q without a further goto -/
def fwd (P : Program) (c : Code) (Q : Exit → Act → World → Prop) : Exit → Act → World → Prop
  | .goto l, a, w => ∃ rest, findLabel c l = some rest ∧ rest.wp P (Exit.noGoto Q) a w
  | e, a, w => Q e a w
theorem fwd_normal {c : Code} : fwd P c Q .normal a w = Q .normal a w := rfl
theorem fwd_ret {c : Code} : fwd P c Q .ret a w = Q .ret a w := rfl
theorem fwd_exit {c : Code} (id : Nat) : fwd P c Q (.exit id) a w = Q (.exit id) a w := rfl
theorem fwd_panic {c : Code} (ch : List PanicEntry) : fwd P c Q (.panic ch) a w = Q (.panic ch) a w := rfl
theorem fwd_ret_of {c : Code} (h : Q .ret a w) : fwd P c Q .ret a w := h
theorem noGoto_ret_of (h : Q .ret a w) : Exit.noGoto Q .ret a w := h
theorem fwd_goto_of {c rest : Code} {l : Nat} (h : findLabel c l = some rest) (h2 : rest.wp P (Exit.noGoto Q) a w) : fwd P c Q (.goto l) a w := ⟨rest, h, h2⟩
theorem wp_scope_fwd {c : Code} (h : c.wp P (fwd P c Q) a w) : (Code.scope c).wp P Q a w := by
  intro b k cs
  obtain ⟨e, a₁, w₁, hq, harr⟩ := h b (.inScope c :: k) cs
  cases e with
  | normal => exact ⟨.normal, a₁, w₁, hq, .head step_scope (Steps.trans harr (.one step_inScope))⟩
  | exit id => exact ⟨.exit id, a₁, w₁, hq, fun k' hk => .head step_scope (harr k' (by simp [exitTo, hk]))⟩
  | goto l =>
    obtain ⟨rest, hf, hrest⟩ := hq
    have hg : gotoIn l (.inScope c :: k) = some (.code rest :: .inScope c :: k) := by simp [gotoIn, hf]
    obtain ⟨e₂, a₂, w₂, hq₂, harr₂⟩ := hrest b (.inScope c :: k) cs
    cases e₂ with
    | normal => exact ⟨.normal, a₂, w₂, hq₂, .head step_scope (Steps.trans (harr _ hg) (Steps.trans harr₂ (.one step_inScope)))⟩
    | exit id => exact ⟨.exit id, a₂, w₂, hq₂, fun k' hk => .head step_scope (Steps.trans (harr _ hg) (harr₂ k' (by simp [exitTo, hk])))⟩
    | goto l => exact hq₂.elim
    | ret => exact ⟨_, a₂, w₂, hq₂, .of_steps (.head step_scope (harr _ hg)) harr₂⟩
    | panic ch => exact ⟨_, a₂, w₂, hq₂, .of_steps (.head step_scope (harr _ hg)) harr₂⟩
    | outgrown => exact ⟨_, a₂, w₂, hq₂, .of_steps (.head step_scope (harr _ hg)) harr₂⟩
  | ret => exact ⟨_, a₁, w₁, hq, .of_steps (.one step_scope) harr⟩
  | panic ch => exact ⟨_, a₁, w₁, hq, .of_steps (.one step_scope) harr⟩
  | outgrown => exact ⟨_, a₁, w₁, hq, .of_steps (.one step_scope) harr⟩
end
end Go.Proofs.Ytdjbalaicfienaa
