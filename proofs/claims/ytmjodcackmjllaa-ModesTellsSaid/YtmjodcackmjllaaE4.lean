/- The reference of layer 10, 2: Reach. -/
import Derived.Test.YtmjodcackmjllaaE1
import Derived.Test.YtmjodcackmjllaaM10
import Derived.Test.YtmjodcackmjllaaM12
import Derived.Deep.DeepCutAuto
namespace Go.Proofs.Ytmjodcackmjllaa
open Go.RowKit Go.Shelf
set_option linter.unusedVariables false
set_option linter.unusedSimpArgs false
theorem bfs_new (a : Nat → Nat → Bool) (n s k q : Nat) (h : bfs a n s (k + 1) q ≠ k + 2) : bfs a n s (k + 1) q = bfs a n s k q := by
  rw [bfs_succ] at h ⊢
  unfold stf at h ⊢
  split
  · next h2 => rw [if_pos h2] at h; exact absurd rfl h
  · rfl
/-- what was reached late is not reached earlier; what was reached early is there early -/
theorem bfs_at (a : Nat → Nat → Bool) (n s q v d : Nat) (hv : v ≠ 0) (hd : v ≤ d + 1) : ∀ e, bfs a n s (d + e) q = v → bfs a n s d q = v
  | 0, h => h
  | e + 1, h => bfs_at a n s q v d hv hd e (by
      rw [← Nat.add_assoc] at h
      rw [← bfs_new a n s (d + e) q (by omega)]
      exact h)
theorem bfs_closed (a : Nat → Nat → Bool) (n s : Nat) : ∀ k i q, bfs a n s k i ≠ 0 → bfs a n s k i ≤ k → i < n → a i q = true → bfs a n s k q ≠ 0
  | 0, i, q, h1, h2, _, _ => by omega
  | k + 1, i, q, h1, h2, h3, h4 => by
    have e := bfs_new a n s k i (by omega)
    rw [e] at h1 h2
    by_cases h5 : bfs a n s k i ≤ k
    · have h6 := bfs_closed a n s k i q h1 h5 h3 h4
      rw [bfs_keep a n s k q _ rfl h6]
      exact h6
    · by_cases h7 : bfs a n s k q = 0
      · rw [bfs_succ]
        unfold stf
        rw [if_pos ⟨h7, by
          rw [(hit_iff _ _ _ _ _).2 ⟨i, h3, by omega, h4⟩]
          rfl⟩]
        omega
      · rw [bfs_keep a n s k q _ rfl h7]
        exact h7
/-- who is there, behind k changes -/
def thf (a : Nat → Nat → Bool) (n s k : Nat) : Nat → Bool := fun q => decide (0 < bfs a n s k q)
def hitB (a : Nat → Nat → Bool) (f : Nat → Bool) (i q : Nat) : Bool := (List.range i).any fun i' => f i' && a i' q
theorem hitB_succ (a : Nat → Nat → Bool) (f : Nat → Bool) (i q : Nat) : hitB a f (i + 1) q = (hitB a f i q || (f i && a i q)) := by
  unfold hitB
  rw [List.range_succ, List.any_append, List.any_cons, List.any_nil, Bool.or_false]
theorem hitB_iff (a : Nat → Nat → Bool) (f : Nat → Bool) (i q : Nat) : hitB a f i q = true ↔ ∃ i', i' < i ∧ f i' = true ∧ a i' q = true := by
  unfold hitB
  simp only [List.any_eq_true, List.mem_range, Bool.and_eq_true]
def stB (a : Nat → Nat → Bool) (f : Nat → Bool) (i j : Nat) : Nat → Bool := fun q => f q || (hitB a f i q || (decide (q < j) && (f i && a i q)))
theorem stB_start (a : Nat → Nat → Bool) (f : Nat → Bool) : stB a f 0 0 = f := by
  funext q
  unfold stB
  simp [hitB]
theorem stB_row (a : Nat → Nat → Bool) (f : Nat → Bool) (i n : Nat) (ha : ∀ q, n ≤ q → a i q = false) : stB a f i n = stB a f (i + 1) 0 := by
  funext q
  unfold stB
  rw [hitB_succ]
  by_cases h : q < n
  · simp [h]
  · simp [h, ha q (by omega)]
theorem stB_no (a : Nat → Nat → Bool) (f : Nat → Bool) (i j : Nat) (h : (f i && a i j) = false) : stB a f i (j + 1) = stB a f i j := by
  funext q
  unfold stB
  by_cases hq : q = j
  · subst hq
    rw [h]
    simp
  · have e : decide (q < j + 1) = decide (q < j) := by
      by_cases h2 : q < j
      · simp [h2]; omega
      · simp [h2]; omega
    rw [e]
theorem stB_yes (a : Nat → Nat → Bool) (f : Nat → Bool) (i j : Nat) (h : (f i && a i j) = true) : stB a f i (j + 1) = fun q => if q = j then true else stB a f i j q := by
  funext q
  unfold stB
  by_cases hq : q = j
  · subst hq
    rw [h]
    simp
  · have e : decide (q < j + 1) = decide (q < j) := by
      by_cases h2 : q < j
      · simp [h2]; omega
      · simp [h2]; omega
    rw [e, if_neg hq]
theorem thf_zero (a : Nat → Nat → Bool) (n s : Nat) : thf a n s 0 = fun q => decide (q = s) := by
  funext q
  unfold thf bfs
  by_cases h : q = s <;> simp [h]
theorem thf_succ (a : Nat → Nat → Bool) (n s k : Nat) (hs : s < n) (ha : ∀ i q, n ≤ q → a i q = false) : stB a (thf a n s k) n 0 = thf a n s (k + 1) := by
  funext q
  rw [Bool.eq_iff_iff]
  unfold stB
  simp only [Nat.not_lt_zero, decide_false, Bool.false_and, Bool.or_false, Bool.or_eq_true, hitB_iff]
  unfold thf
  simp only [decide_eq_true_eq]
  constructor
  · rintro (h | ⟨i, hi, h1, h2⟩)
    · rw [bfs_keep a n s k q _ rfl (by omega)]
      exact h
    · have hb := (bfs_before a n s hs ha k i).1
      by_cases h3 : bfs a n s k i ≤ k
      · have h4 := bfs_closed a n s k i q (by omega) h3 hi h2
        rw [bfs_keep a n s k q _ rfl h4]
        omega
      · by_cases h4 : bfs a n s k q = 0
        · rw [bfs_succ]
          unfold stf
          rw [if_pos ⟨h4, by rw [(hit_iff _ _ _ _ _).2 ⟨i, hi, by omega, h2⟩]; rfl⟩]
          omega
        · rw [bfs_keep a n s k q _ rfl h4]
          omega
  · intro h
    by_cases h2 : bfs a n s (k + 1) q = k + 2
    · by_cases h4 : bfs a n s k q = 0
      · right
        rw [bfs_succ] at h
        unfold stf at h
        split at h
        · next h5 =>
          have h6 := h5.2
          simp only [Nat.not_lt_zero, decide_false, Bool.false_and, Bool.or_false] at h6
          obtain ⟨i, hi, h7, h8⟩ := (hit_iff _ _ _ _ _).1 h6
          exact ⟨i, hi, by omega, h8⟩
        · omega
      · left; omega
    · rw [bfs_new a n s k q h2] at h
      exact .inl h
theorem thf_far (a : Nat → Nat → Bool) (n s q : Nat) (hs : s < n) (ha : ∀ i q, n ≤ q → a i q = false) (ch : Int) (hc : 0 ≤ ch) (K : Nat) (hK : (K : Int) = min ch n) : thf a n s K q = (decide (0 < bfs a n s n q) && decide ((bfs a n s n q : Int) - 1 ≤ ch)) := by
  rw [Bool.eq_iff_iff]
  unfold thf
  simp only [Bool.and_eq_true, decide_eq_true_eq]
  have hle := bfs_le a n s hs ha n q
  obtain ⟨e, he⟩ : ∃ e, n = K + e := ⟨n - K, by omega⟩
  constructor
  · intro h
    have h2 := bfs_keepTo a n s K q _ rfl (by omega) e
    rw [← he] at h2
    have h3 := (bfs_before a n s hs ha K q).1
    rw [h2]
    omega
  · rintro ⟨h1, h2⟩
    have h3 : bfs a n s K q = bfs a n s n q := bfs_at a n s q _ K (by omega) (by omega) e (by rw [← he])
    omega
/-- a row of truths that the call itself has made -/
structure BRow (w : World) (b n : Nat) (f : Nat → Bool) : Prop where
  ex : ∃ c : Array Value, Box w b 4 c ∧ ∀ q, q < n → c[q]? = some (.bool (f q))
theorem BRow.lt {w : World} {b n : Nat} {f : Nat → Bool} (h : BRow w b n f) : b < w.heap.size := by
  obtain ⟨c, h1, -⟩ := h.ex
  exact h1.lt
theorem BRow.cell {w : World} {b n : Nat} {f : Nat → Bool} (h : BRow w b n f) (q : Nat) (hq : q < n) : w.cell? ⟨b, q, none⟩ = some (.bool (f q)) := by
  obtain ⟨c, h1, h2⟩ := h.ex
  exact h1.cell q _ (h2 q hq)
theorem BRow.frozen {w : World} {b n : Nat} {f : Nat → Bool} (h : BRow w b n f) (q : Nat) : w.frozen? ⟨b, q, none⟩ = false := by
  obtain ⟨c, h1, -⟩ := h.ex
  exact h1.frozen q
theorem BRow.keeps {w w' : World} {b n : Nat} {f : Nat → Bool} (h : BRow w b n f) (hk : Keeps w w') : BRow w' b n f := by
  obtain ⟨c, h1, h2⟩ := h.ex
  exact ⟨c, h1.keeps hk, h2⟩
theorem BRow.other {w : World} {b n g i : Nat} {v : Value} {f : Nat → Bool} (h : BRow w b n f) (hg : b ≠ g) : BRow (w.setCell ⟨g, i, none⟩ v) b n f := by
  obtain ⟨c, h1, h2⟩ := h.ex
  exact ⟨c, h1.keepsBut (KeepsBut.setCell _ g i v) hg, h2⟩
theorem BRow.set {w : World} {b n : Nat} {f g : Nat → Bool} (h : BRow w b n f) (j : Nat) (hj : j < n) (hg : g = fun q => if q = j then true else f q) : BRow (w.setCell ⟨b, j, none⟩ (.bool true)) b n g := by
  obtain ⟨c, h1, h2⟩ := h.ex
  refine ⟨c.setIfInBounds j (.bool true), Box.putM h1 j _, fun q hq => ?_⟩
  rw [hg, Array.getElem?_setIfInBounds]
  by_cases e : j = q
  · subst e
    have hlt : j < c.size := by
      have := h2 j hj
      exact (Array.getElem?_eq_some_iff.1 this).1
    simp [hlt]
  · rw [if_neg e]
    show c[q]? = some (.bool (if q = j then true else f q))
    rw [if_neg (fun h => e h.symm)]
    exact h2 q hq
theorem BRow.ofOwn {w : World} {base k : Nat} {v : Value} {f : Nat → Bool} {xs : List Value} (h : w.ownsRow base 4 1 v k xs) (hk : 1 ≤ k) (hx : ∀ q, q < k → xs[q]? = some (.bool (f q))) : ∃ g cap, v = .slice (some ⟨g, 0, none⟩) k cap ∧ base ≤ g ∧ k ≤ cap ∧ cap ≤ 9223372036854775807 ∧ BRow w g k f := by
  rcases h.2 with ⟨-, hn⟩ | ⟨g, cap, cur, hv, hbg, hg, hnc, hcm, hcs, htake⟩
  · omega
  · refine ⟨g, cap, hv, hbg, hnc, by unfold maxLen at hcm; omega, ⟨cur, hg, fun q hq => ?_⟩⟩
    have h2 := hx q hq
    rw [← htake, List.getElem?_take, if_pos (by omega)] at h2
    simpa using h2
theorem made_bools (n q : Nat) (hq : q < n) : (madeCells #[.bool false] n).toList[q]? = some (.bool false) := by
  simp [madeCells, hq, Nat.mod_one]
/-- 'append([]bool(nil), xs...)' -/
theorem wpList_copiedB {w : World} {ops : Array Oper} {rest : List Oper} {o : Oper} {a : Act} {Q : Exit → Act → World → Prop} (hgd : o.guard = none) (s x : Operand)
    (ho : o.op = .call { callee := .builtin .append, args := #[s, x], argTypes := #[22, 22] }) (hs : a.eval s = .slice none 0 0) (b n cap : Nat) (f : Nat → Bool) (hx : a.eval x = .slice (some ⟨b, 0, none⟩) n cap) (hr : BRow w b n f) (hn : 1 ≤ n) (hn4 : n ≤ 1000)
    (h : ∀ g cap' w', w.heap.size ≤ g → n ≤ cap' → cap' ≤ 9223372036854775807 → BRow w' g n f → Keeps w w' → wpList Try.prog ops Q rest (a.put o.dst (.slice (some ⟨g, 0, none⟩) n cap')) w') : wpList Try.prog ops Q (o :: rest) a w := by
  obtain ⟨i, hi, hz0, hz1, hz2⟩ := info_parts info_boolM
  refine wpList_append_own_at w hgd s x 22 ho w.heap.size 4 i (.bool false) 1 1 Try.underlying22 hi hz0 hz1 hz2 rfl (by decide) (.slice none 0 0) 0 [] hs (World.ownsRow_nil _ _ _ _) ⟨b, 0, none⟩ n cap ((List.range n).map fun q => Value.bool (f q)) hx (by simp) (fun j u hj => ?_) (fun u hu => ?_) (by unfold maxLen; omega) (by omega) (Nat.le_refl _) ?_
  · simp only [List.getElem?_map, Option.map_eq_some_iff] at hj
    obtain ⟨z, hz, rfl⟩ := hj
    have hjn : j < n := by
      have := (List.getElem?_eq_some_iff.1 hz).1
      simpa using this
    rw [List.getElem?_range hjn] at hz
    simp only [Option.some.injEq] at hz
    subst hz
    have hc := hr.cell j hjn
    by_cases hj0 : j = 0
    · subst hj0; simpa [Addr.add] using hc
    · simpa [Addr.add, hj0] using hc
  · simp only [List.mem_map] at hu
    obtain ⟨z, -, rfl⟩ := hu
    rfl
  · intro v' w' hown hg _ hat
    rw [Nat.zero_add, List.nil_append] at hown
    obtain ⟨g, cap', rfl, h1, h2, h3, h4⟩ := BRow.ofOwn (f := f) hown hn (fun q hq => by rw [List.getElem?_map, List.getElem?_range hq]; rfl)
    exact h g cap' w' h1 h2 h3 h4 ((Below.refl w.heap.size w).grown hg (Nat.le_refl _) (fun k hk => by simp [Value.ownBlock] at hk))
end Go.Proofs.Ytmjodcackmjllaa
