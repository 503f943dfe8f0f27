/- A region that draws its order, whose operations and callees keep what lay there: the class of the worlds that keep. -/
import Derived.Test.YtmjodcackmjllaaQTail
import Derived.Test.YtmjodcackmjllaaBase2
namespace Go.Proofs.Ytmjodcackmjllaa
open Go.RowKit
set_option linter.unusedVariables false

/-- a world in which all lies that lay in W -/
structure Later (W : World) where
  w : World
  keeps : Keeps W w
instance (W : World) : Nonempty (Later W) := ⟨⟨W, Keeps.refl W⟩⟩
theorem Later.calls {P : Program} {f : FuncId} {args : Array Value} {W : World} {v : Value} (k : Later W) (h : Calls P f args k.w fun e w' => e = .returned v ∧ Keeps k.w w') :
    Calls P f args k.w fun e w' => e = .returned v ∧ ∃ k' : Later W, w' = k'.w :=
  h.mono fun e w' ⟨h1, h2⟩ => ⟨h1, ⟨w', k.keeps.trans h2⟩, rfl⟩
theorem Box.later {W : World} {b t : Nat} {c : Array Value} (h : Box W b t c) (i : Nat) (v : Value) (hv : c[i]? = some v) : ∀ k : Later W, k.w.cell? ⟨b, i, none⟩ = some v := fun k => (h.keeps k.keeps).cell i v hv
theorem Box.laterF {W : World} {b t : Nat} {c : Array Value} (h : Box W b t c) (i : Nat) : ∀ k : Later W, k.w.frozen? ⟨b, i, none⟩ = false := fun k => (h.keeps k.keeps).frozen i
theorem wp_region_later {P : Program} {id : Nat} {Q : Exit → Act → World → Prop} {a : Act} {w : World} {l : List Oper} (hm : P.follows .mixedOrders = true) (hB : Region.lexB .any l.toArray = true)
    (h : wpQuiet P l.toArray (fun w' => ∃ k : Later w, w' = k.w) (fun a' => ∀ w', (∃ k : Later w, w' = k.w) → Q .normal a' w') l a) : (Code.region id l.toArray true).wp P Q a w :=
  wp_region_quiet_in (fun w' => ∃ k : Later w, w' = k.w) hm hB ⟨⟨w.drew, (Keeps.refl w).drew⟩, rfl⟩ h
end Go.Proofs.Ytmjodcackmjllaa
