/- Plain: lists of modes, how long frames last, which lists may be. -/
import Derived.Test.YtmjodcackmjllaaNums
namespace Go.Proofs.Ytmjodcackmjllaa
open Go.RowKit
set_option linter.unusedVariables false
set_option linter.unusedSimpArgs false

/-- how many bits a frame has -/
def sizeI (k d : Int) : Int :=
  if d < 0 ∨ 8 < d then 0 else if k = 1 then (if d = 0 then 40 else 0) else if k = 2 then 29 + 8 * d else if k = 3 then (if d = 0 then 54 else 0) else if k = 4 then 79 + 8 * d else 0
theorem sizeI_le (k d : Int) : 0 ≤ sizeI k d ∧ sizeI k d ≤ 200 := by unfold sizeI; constructor <;> (repeat' split) <;> omega
/-- how many samples so many bits have -/
def airI (n : Int) : Int := if n < 0 ∨ 4095 < n then 0 else 14 + (n + 1) / 2
theorem airI_le (n : Int) : 0 ≤ airI n ∧ airI n ≤ 4000 := by unfold airI; split <;> omega
/-- the kind of a frame -/
def kindI (e : Bool) (d : Int) : Int := cond e (if 0 < d then 4 else 3) 2
theorem kindI_cases (e : Bool) (d : Int) : kindI e d = 2 ∨ kindI e d = 3 ∨ kindI e d = 4 := by
  unfold kindI; cases e
  · exact .inl rfl
  · by_cases h : 0 < d
    · right; right; rw [if_pos h]; rfl
    · right; left; rw [if_neg h]; rfl
/-- a mode: its three slices, and what they hold -/
structure RM where
  dv : Value
  ev : Value
  nv : Value
  ds : List Int
  es : List Bool
  ns : List Bool
structure RM.In (x : RM) (w : World) : Prop where
  d : Ints w x.dv x.ds
  e : Bools w x.ev x.es
  n : Bools w x.nv x.ns
theorem RM.In.keeps {x : RM} {w w' : World} (h : x.In w) (hk : Keeps w w') : x.In w' := ⟨h.d.keeps hk, h.e.keeps hk, h.n.keeps hk⟩
/-- one slot's frame, put to the longest -/
def airStep (nodes : Int) (es : List Bool) (k : Nat) (d : Int) (m : Int) : Int :=
  if (k : Int) < nodes ∧ k < es.length then (if 0 < sizeI (kindI (es.getD k false) d) d then max m (airI (sizeI (kindI (es.getD k false) d) d)) else m) else m
/-- the longest of a mode's first k -/
def airTo (nodes : Int) (ds : List Int) (es : List Bool) (m : Int) : Nat → Int
  | 0 => m
  | k + 1 => airStep nodes es k (ds.getD k 0) (airTo nodes ds es m k)
theorem airStep_no (nodes : Int) (es : List Bool) (k : Nat) (d m : Int) (h : ¬ ((k : Int) < nodes ∧ k < es.length)) : airStep nodes es k d m = m := by
  unfold airStep; rw [if_neg h]
theorem airStep_yes (nodes : Int) (es : List Bool) (k : Nat) (d m : Int) (h1 : (k : Int) < nodes) (h2 : k < es.length) (h3 : 0 < sizeI (kindI (es.getD k false) d) d) :
    airStep nodes es k d m = max m (airI (sizeI (kindI (es.getD k false) d) d)) := by unfold airStep; rw [if_pos ⟨h1, h2⟩, if_pos h3]
theorem airStep_0 (nodes : Int) (es : List Bool) (k : Nat) (d m : Int) (h3 : ¬ 0 < sizeI (kindI (es.getD k false) d) d) :
    airStep nodes es k d m = m := by unfold airStep; rw [if_neg h3]; split <;> rfl
theorem airStep_le (nodes : Int) (es : List Bool) (k : Nat) (d m : Int) (h : m ≤ 4000) : m ≤ airStep nodes es k d m ∧ airStep nodes es k d m ≤ 4000 := by
  unfold airStep
  have := airI_le (sizeI (kindI (es.getD k false) d) d)
  split
  · split <;> omega
  · omega
theorem airTo_le (nodes : Int) (ds : List Int) (es : List Bool) (m : Int) (h : m ≤ 4000) (k : Nat) : m ≤ airTo nodes ds es m k ∧ airTo nodes ds es m k ≤ 4000 := by
  induction k with
  | zero => exact ⟨Int.le_refl _, h⟩
  | succ k ih =>
    have := airStep_le nodes es k (ds.getD k 0) _ ih.2
    simp only [airTo]
    omega
/-- behind the nodes, or the truths, nothing comes -/
theorem airTo_stop (nodes : Int) (ds : List Int) (es : List Bool) (m : Int) (k : Nat) (h : ¬ ((k : Int) < nodes ∧ k < es.length)) (j : Nat) : airTo nodes ds es m (k + j) = airTo nodes ds es m k := by
  induction j with
  | zero => rfl
  | succ j ih =>
    show airStep nodes es (k + j) _ (airTo nodes ds es m (k + j)) = _
    rw [airStep_no _ _ _ _ _ (by omega), ih]
/-- the longest of the first k modes -/
def mairTo (nodes : Int) (xs : List RM) : Nat → Int
  | 0 => 34
  | k + 1 => match xs[k]? with
    | some x => airTo nodes x.ds x.es (mairTo nodes xs k) x.ds.length
    | none => mairTo nodes xs k
theorem mairTo_succ (nodes : Int) (xs : List RM) (k : Nat) (h : k < xs.length) : mairTo nodes xs (k + 1) = airTo nodes xs[k].ds xs[k].es (mairTo nodes xs k) xs[k].ds.length := by
  simp only [mairTo, List.getElem?_eq_getElem h]
theorem mairTo_le (nodes : Int) (xs : List RM) (k : Nat) : 34 ≤ mairTo nodes xs k ∧ mairTo nodes xs k ≤ 4000 := by
  induction k with
  | zero => exact ⟨by simp [mairTo], by simp [mairTo]⟩
  | succ k ih =>
    unfold mairTo
    split
    · next x _ => have := airTo_le nodes x.ds x.es _ ih.2 x.ds.length; omega
    · exact ih
def mairI (nodes : Int) (xs : List RM) : Int := mairTo nodes xs xs.length
theorem mairI_le (nodes : Int) (xs : List RM) : 34 ≤ mairI nodes xs ∧ mairI nodes xs ≤ 4000 := mairTo_le _ _ _

/-- is a number one a slot may have, and is a slot explicit where it must -/
def dataOk (d : Int) : Bool := decide (0 ≤ d) && decide (d ≤ 8)
/-- may a mode be, of so many nodes and modes -/
def modeOk (nodes : Int) (nm : Nat) (cs : List Bool) (x : RM) : Bool :=
  decide ((x.ds.length : Int) = nodes ∧ (x.es.length : Int) = nodes ∧ x.ns.length = nm) && decide (∀ k, k < x.ds.length → dataOk (x.ds.getD k 0) = true ∧ (cs.getD k false = true → x.es.getD k false = true))
/-- how many truths hold, of the first k -/
def truesTo (cs : List Bool) (k : Nat) : Nat := ((cs.take k).filter id).length
theorem truesTo_succ (cs : List Bool) (k : Nat) (h : k < cs.length) : truesTo cs (k + 1) = truesTo cs k + (cs.getD k false).toNat := by
  unfold truesTo
  rw [List.take_succ_eq_append_getElem h, List.filter_append, List.length_append, List.getD_eq_getElem?_getD, List.getElem?_eq_getElem h]
  cases hc : cs[k] <;> simp [hc]
theorem truesTo_le (cs : List Bool) (k : Nat) : truesTo cs k ≤ k := Nat.le_trans (List.length_filter_le _ _) (List.length_take_le _ _)
/-- the list -/
structure RMedl where
  nodes : Int
  slot : Int
  gap : Int
  window : Int
  drift : Int
  delay : Int
  cv : Value
  cs : List Bool
  ma : Option Addr
  mn : Nat
  mc : Nat
  xs : List RM
abbrev RMedl.val (m : RMedl) : Value := .agg #[.int .i64 m.nodes, .int .i64 m.slot, .int .i64 m.gap, .int .i64 m.window, .int .i64 m.drift, .int .i64 m.delay, m.cv, .slice m.ma m.mn m.mc]
/-- a list of modes lies there -/
structure RMs (w : World) (a : Option Addr) (n cap : Nat) (xs : List RM) : Prop where
  len : xs.length = n
  hcap : n ≤ cap
  hmax : cap ≤ 9223372036854775807
  isIn : ∀ x ∈ xs, x.In w
  cell : ∀ i (h : i < xs.length), ∃ b off, a = some ⟨b, off, none⟩ ∧ w.cell? ⟨b, off + i * 3, none⟩ = some xs[i].dv ∧ w.cell? ⟨b, off + i * 3 + 1, none⟩ = some xs[i].ev ∧ w.cell? ⟨b, off + i * 3 + 2, none⟩ = some xs[i].nv
theorem RMs.keeps {w w' : World} {a : Option Addr} {n cap : Nat} {xs : List RM} (h : RMs w a n cap xs) (hk : Keeps w w') : RMs w' a n cap xs :=
  ⟨h.len, h.hcap, h.hmax, fun x hx => (h.isIn x hx).keeps hk, fun i hi => by
    obtain ⟨b, off, h1, h2, h3, h4⟩ := h.cell i hi
    exact ⟨b, off, h1, hk.later h2, hk.later h3, hk.later h4⟩⟩
theorem RMs.addr {w : World} {a : Option Addr} {n cap : Nat} {xs : List RM} (h : RMs w a n cap xs) (h0 : 0 < xs.length) : ∃ b off, a = some ⟨b, off, none⟩ ∧
    ∀ i (hi : i < xs.length), w.cell? ⟨b, off + i * 3, none⟩ = some xs[i].dv ∧ w.cell? ⟨b, off + i * 3 + 1, none⟩ = some xs[i].ev ∧ w.cell? ⟨b, off + i * 3 + 2, none⟩ = some xs[i].nv := by
  obtain ⟨b, off, hab, -, -⟩ := h.cell 0 h0
  refine ⟨b, off, hab, fun i hi => ?_⟩
  obtain ⟨b', off', hab', h1, h2⟩ := h.cell i hi
  rw [hab] at hab'
  simp only [Option.some.injEq, Addr.mk.injEq] at hab'
  obtain ⟨rfl, rfl, _⟩ := hab'
  exact ⟨h1, h2⟩
structure RMedl.In (m : RMedl) (w : World) : Prop where
  c : Bools w m.cv m.cs
  m : RMs w m.ma m.mn m.mc m.xs
theorem RMedl.In.keeps {m : RMedl} {w w' : World} (h : m.In w) (hk : Keeps w w') : m.In w' := ⟨h.c.keeps hk, h.m.keeps hk⟩
def RMedl.mair (m : RMedl) : Int := mairI m.nodes m.xs
def countsOk (m : RMedl) : Bool := decide (4 ≤ m.nodes ∧ m.nodes ≤ 8 ∧ 1 ≤ m.xs.length ∧ m.xs.length ≤ 4 ∧ (m.cs.length : Int) = m.nodes ∧ 2 ≤ truesTo m.cs m.cs.length)
def modesOk (m : RMedl) : Bool := m.xs.all (modeOk m.nodes m.xs.length m.cs)
def numsOk (m : RMedl) : Bool := decide (0 ≤ m.drift ∧ m.drift ≤ 64 ∧ 0 ≤ m.delay ∧ m.delay ≤ 64 ∧ m.window ≤ 1048576 ∧ m.gap ≤ 1048576 ∧ m.slot ≤ 16777216 ∧
  16 * m.nodes * m.drift + 16 ≤ m.window ∧ 2 * m.window + 2 * m.delay + 4 ≤ m.gap ∧ 2 * m.gap + m.mair ≤ m.slot)
def medlOk (m : RMedl) : Bool := countsOk m && (modesOk m && numsOk m)
def medlErr (m : RMedl) : Int := cond (medlOk m) 0 70
end Go.Proofs.Ytmjodcackmjllaa
