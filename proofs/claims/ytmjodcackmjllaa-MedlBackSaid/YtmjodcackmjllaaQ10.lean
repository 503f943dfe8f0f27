/- Plain: what a list says; the list of bytes. -/
import Derived.Test.YtmjodcackmjllaaQ9
import Derived.Test.YtmjodcackmjllaaH1
namespace Go.Proofs.Ytmjodcackmjllaa
open Go.RowKit
set_option linter.unusedVariables false
set_option linter.unusedSimpArgs false
def RM.c (x : RM) : RM := ⟨.slice none 0 0, .slice none 0 0, .slice none 0 0, x.ds, x.es, x.ns⟩
def RMedl.c (m : RMedl) : RMedl := ⟨m.nodes, m.slot, m.gap, m.window, m.drift, m.delay, .slice none 0 0, m.cs, none, 0, 0, m.xs.map RM.c⟩
theorem same_c {a b : RMedl} (h : sameL a b = true) : a.c = b.c := by
  obtain ⟨h1, h2, h3, h4, h5, h6, h7, h8⟩ := (sameL_iff a b).1 h
  have : a.xs.map RM.c = b.xs.map RM.c := by
    have e : RM.c = (fun p : List Int × List Bool × List Bool => (⟨.slice none 0 0, .slice none 0 0, .slice none 0 0, p.1, p.2.1, p.2.2⟩ : RM)) ∘ RM.p := rfl
    rw [e, ← List.map_map, ← List.map_map, h8]
  unfold RMedl.c
  rw [h1, h2, h3, h4, h5, h6, h7, this]
theorem mairTo_c (n : Int) (xs : List RM) (k : Nat) : mairTo n (xs.map RM.c) k = mairTo n xs k := by
  induction k with
  | zero => rfl
  | succ k ih =>
    simp only [mairTo, List.getElem?_map, ih]
    cases xs[k]? <;> rfl
theorem mair_c (m : RMedl) : m.c.mair = m.mair := by
  unfold RMedl.mair mairI RMedl.c
  simp only [List.length_map, mairTo_c]
theorem medlOk_c (m : RMedl) : medlOk m.c = medlOk m := by
  have h1 : countsOk m.c = countsOk m := by unfold countsOk RMedl.c; simp only [List.length_map]
  have h2 : modesOk m.c = modesOk m := by
    unfold modesOk
    simp only [RMedl.c, List.all_map, List.length_map]
    rfl
  have h3 : numsOk m.c = numsOk m := by
    unfold numsOk
    rw [mair_c]
    rfl
  unfold medlOk
  rw [h1, h2, h3]
theorem medlErr_c (m : RMedl) : medlErr m.c = medlErr m := by unfold medlErr; rw [medlOk_c]
theorem medlBytes_c (m : RMedl) : medlBytes m.c = medlBytes m := by
  have h : medlBody m.c = medlBody m := by
    unfold medlBody bodyTo headB RMedl.c
    simp only [List.length_map, ← List.map_take, List.flatMap_map]
    rfl
  unfold medlBytes
  rw [h]
theorem bytesRes_c (m : RMedl) : bytesRes m.c = bytesRes m := by unfold bytesRes; rw [medlOk_c, medlBytes_c]
theorem same_ok {a b : RMedl} (h : sameL a b = true) : medlOk a = medlOk b := by rw [← medlOk_c a, same_c h, medlOk_c]
theorem same_err {a b : RMedl} (h : sameL a b = true) : medlErr a = medlErr b := by rw [← medlErr_c a, same_c h, medlErr_c]
theorem same_bytes {a b : RMedl} (h : sameL a b = true) : medlBytes a = medlBytes b := by rw [← medlBytes_c a, same_c h, medlBytes_c]
theorem same_res {a b : RMedl} (h : sameL a b = true) : bytesRes a = bytesRes b := by rw [← bytesRes_c a, same_c h, bytesRes_c]
/-- the byte q, or -1 -/
def tk (l : List Nat) (q : Nat) : Int := tkV l (min q l.length) 1
theorem tk_in (l : List Nat) (q : Nat) (h : q < l.length) : tk l q = (l.getD q 0 : Nat) := by
  unfold tk tkV
  rw [Nat.min_eq_left (by omega), if_pos (by omega)]
  simp [numB]
theorem tkP_one (l : List Nat) (q : Nat) : tkP l (min q l.length) 1 = min (q + 1) l.length := by
  unfold tkP
  split <;> omega
def pMode (l : List Nat) (n k q : Nat) : RM := ⟨.slice none 0 0, .slice none 0 0, .slice none 0 0, (List.range n).map (fun i => tk l (q + i)), truthsOf (tk l (q + n)) n, truthsOf (tk l (q + n + 1)) k⟩
def pNodes (l : List Nat) : Nat := numB l 1 1
def pModes (l : List Nat) : Nat := numB l 2 1
def pMedl (l : List Nat) : RMedl := ⟨pNodes l, numB l 3 4, numB l 7 4, numB l 11 4, numB l 15 1, numB l 16 1, .slice none 0 0, truthsOf (numB l 17 1) (pNodes l), none, 0, 0, (List.range (pModes l)).map fun j => pMode l (pNodes l) (pModes l) (18 + j * (pNodes l + 2))⟩
def goodP (l : List Nat) : Bool := decide (21 ≤ l.length ∧ l.length ≤ 512 ∧ pNodes l ≤ 8 ∧ pModes l ≤ 4) && (medlOk (pMedl l) && decide (medlBytes (pMedl l) = l))
def zeroM : RMedl := ⟨0, 0, 0, 0, 0, 0, .slice none 0 0, [], none, 0, 0, []⟩
theorem zeroM_in (w : World) : zeroM.In w := ⟨⟨none, 0, rfl, Nat.le_refl _, by decide, RowV.nil _ _⟩, ⟨rfl, Nat.le_refl _, by show (0 : Nat) ≤ _; decide, fun x hx => (by cases hx), fun i hi => absurd hi (Nat.not_lt_zero _)⟩⟩
def parsed (l : List Nat) : RMedl := cond (goodP l) (pMedl l) zeroM
def parseErr (l : List Nat) : Int := cond (goodP l) 0 71
theorem goodP_iff (l : List Nat) : goodP l = true ↔ (21 ≤ l.length ∧ l.length ≤ 512 ∧ pNodes l ≤ 8 ∧ pModes l ≤ 4) ∧ medlOk (pMedl l) = true ∧ medlBytes (pMedl l) = l := by
  simp only [goodP, Bool.and_eq_true, decide_eq_true_eq]
/-- what Parse answers -/
def ParsePost (l : List Nat) (w : World) (e : Ending) (w' : World) : Prop := ∃ m : RMedl, e = .returned (.tuple #[m.val, .int .i64 (parseErr l)]) ∧ m.In w' ∧ sameL m (parsed l) = true ∧ Keeps w w'
theorem parse_no {l : List Nat} {w w' : World} {e : Ending} (h : goodP l = false) (he : e = .returned (.tuple #[zeroM.val, .int .i64 71])) (hk : Keeps w w') : ParsePost l w e w' := by
  refine ⟨zeroM, ?_, zeroM_in _, ?_, hk⟩
  · rw [he]; unfold parseErr; rw [h]; rfl
  · unfold parsed; rw [h]; exact sameL_self _
theorem parse_yes {l : List Nat} {w w' : World} {e : Ending} {m : RMedl} (h : goodP l = true) (he : e = .returned (.tuple #[m.val, .int .i64 0])) (hm : m.In w') (hs : sameL m (pMedl l) = true) (hk : Keeps w w') : ParsePost l w e w' := by
  refine ⟨m, ?_, hm, ?_, hk⟩
  · rw [he]; unfold parseErr; rw [h]; rfl
  · unfold parsed; rw [h]; exact hs
theorem goodP_no1 {l : List Nat} (h : ¬ (21 ≤ l.length ∧ l.length ≤ 512 ∧ pNodes l ≤ 8 ∧ pModes l ≤ 4)) : goodP l = false := by
  rw [Bool.eq_false_iff, ne_eq, goodP_iff]
  exact fun hh => h hh.1
end Go.Proofs.Ytmjodcackmjllaa
