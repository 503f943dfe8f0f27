/- bits.Text: the digits of bits. -/
import Derived.Test.YtkbdpdcandpfdaaW32
namespace Go.Proofs.Ytkbdpdcandpfdaa
open Go.RowKit Go.Shelf
set_option linter.unusedVariables false
set_option linter.unusedSimpArgs false
attribute [local go_sem] Oper.semAt_some

/-- a truth's digit -/
def digit (b : Bool) : UInt8 := if b then 49 else 48
def digits (bs : List Bool) : List UInt8 := bs.map digit
theorem pairs_snd (bs : List Bool) : (pairs bs bs.length).map Prod.snd = bs := by
  apply List.ext_getElem
  · simp [pairs]
  · intro i h1 h2
    simp [pairs, h2]
theorem byteCells_snoc (l : List UInt8) (b : UInt8) : Lib.byteCells (l ++ [b]) = Lib.byteCells l ++ [.int .u8 (b.toNat : Int)] := by simp [Lib.byteCells]
theorem builder_own {β : Type} (T e : TypeId) (B b : Nat) (f : β → List Value) : Go.Own (fun s W => Lib.IsBuilderF T e B b (f s) W) := by
  intro s X Y row hs hg hr
  have key : ∀ p, Lib.BuilderAtF T e B b p (f s) X → Lib.BuilderAtF T e B b p (f s) Y := by
    rintro p ⟨hB, v, hb, hown, hne⟩
    refine ⟨hB, v, (hg.block b (Array.getElem?_eq_some_iff.1 hb).1 (fun e' => ?_)).trans hb, hown.kept hg ?_, hne⟩
    · obtain ⟨o, ho, hc⟩ := hr b e'.symm
      rw [hb] at ho; cases ho; cases hc
    · rcases hown.2 with ⟨rfl, _⟩ | ⟨g, cap, cur, fz, rfl, _, hgb, _⟩
      · exact .inl rfl
      · refine .inr fun e' => ?_
        obtain ⟨o, ho, hc⟩ := hr g (by simpa [Value.ownBlock] using e'.symm)
        rw [hgb] at ho; cases ho; cases hc
  exact hs.elim (fun h => .inl (key _ h)) (fun h => .inr (key _ h))
theorem box_own {β : Type} (B t : Nat) (c : Array Value) : Go.Own (fun (s : β) W => Box W B t c) := fun s X Y row hs hg hrow =>
  (hg.block B hs.lt (fun e' => by obtain ⟨o, ho, hc⟩ := hrow B e'.symm; rw [show X.heap[B]? = _ from hs] at ho; cases ho; cases hc)).trans hs
theorem othersKept_from {e b : Nat} {D : Nat} {w w' : World} (h : Lib.OthersKept e (some b) w w') (hs : w.heap.size ≤ w'.heap.size) (hb : b < D) : KeepsFrom D w w' :=
  ⟨hs, fun k o hk ho hc => h k o ho (by simp; omega) (fun c fz he => by subst he; cases hc)⟩

theorem keepsOn_b {n₀ B : Nat} {w : World} (hn : n₀ ≤ w.heap.size) (hB : B < w.heap.size) (W : World) (l : Nat) (o o' : Obj) (hl : w.heap.size ≤ l) (h : W.heap[l]? = some o) (_ : o.isCells = false) (_ : o.isWalk = false) : KeepsOn n₀ B W (W.putObj l o') := by
  obtain ⟨h1, h2, h3, h4, h5⟩ := grownBy_putObj' W l o'
  exact ⟨h1, h2, h3, h4, fun k hk hlt => h5 k hlt (by simp; omega)⟩
theorem digits_snoc (l : List (Nat × Bool)) (p : Nat × Bool) : Lib.byteCells (digits ((l ++ [p]).map Prod.snd)) = Lib.byteCells (digits (l.map Prod.snd)) ++ [.int .u8 ((digit p.2).toNat : Int)] := by simp [digits, Lib.byteCells]
theorem digits_len (l : List (Nat × Bool)) : (Lib.byteCells (digits (l.map Prod.snd))).length = l.length := by simp [digits, Lib.byteCells]

set_option maxRecDepth 100000 in
set_option maxHeartbeats 2000000 in
theorem text_any (x : RB) (w : World) (hx : x.In w) :
    Calls Try.prog 29 #[x.val] w fun e w' => e = .returned (.string ⟨(digits (listOf x)).toArray⟩) ∧ Keeps w w' := by
  have hst := all_stops 3 (by omega) (w.heap.size + 1 + 1) x w (((w.alloc (.cells #[.int .i64 x.n, .slice x.a x.len x.cap] 32)).alloc (.cells #[.pointer none, .slice none 0 0] 84)).alloc (.cells #[.int .i64 x.n, .slice x.a x.len x.cap] 32)) hx
    ((((Keeps.refl w).alloc _).alloc _).alloc _) (by
      have := Box.new ((w.alloc (.cells #[.int .i64 x.n, .slice x.a x.len x.cap] 32)).alloc (.cells #[.pointer none, .slice none 0 0] 84)) 32 #[.int .i64 x.n, .slice x.a x.len x.cap]
      rw [World.size_alloc, World.size_alloc] at this
      exact this)
  have HST := Lib.hid hst
  have hlen : (listOf x).length ≤ 4096 := by
    unfold listOf
    cases hc : chk x.n x.l
    · simp
    · exact (hx.is hc).most
  obtain ⟨L, hL⟩ : ∃ L, L = listOf x := ⟨_, rfl⟩
  rw [← hL] at HST hlen ⊢
  clear hst hL hx
  obtain ⟨n, a, len, cap, l⟩ := x
  show Calls Try.prog 29 #[.agg #[.int .i64 n, .slice a len cap]] w _
  refine (callsIn_wide (n := 4)).1 ?_
  refine callsIn_of_wp_marks Try.func29 rfl trivial ?_ rfl
  simp only [Try.ntmps29, List.size_toArray, List.length_cons, List.length_nil, Nat.reduceAdd, Nat.reduceSub, Array.replicate_succ, Array.replicate_zero, List.push_toArray, List.append_toArray, List.nil_append, List.cons_append]
  gi_wp2_with fail
  refine ⟨trivial, ?_⟩
  with_reducible refine (callsIn_wide.2 (all_any ⟨n, a, len, cap, l⟩ _)).mono ?_
  rintro e w' ⟨rfl, rfl⟩
  gi_wp2_with fail
  have bB := Box.new w 32 #[.int .i64 n, .slice a len cap]
  have hB0 : Below w.heap.size w (((w.alloc (.cells #[.int .i64 n, .slice a len cap] 32)).alloc (.cells #[.pointer none, .slice none 0 0] 84)).alloc (.cells #[.int .i64 n, .slice a len cap] 32)) := (((Below.refl _ w).alloc (Nat.le_refl _) _).alloc (by simp) _).alloc (by simp; omega) _
  have hbx := Box.new ((w.alloc (.cells #[.int .i64 n, .slice a len cap] 32)).alloc (.cells #[.pointer none, .slice none 0 0] 84)) 32 #[.int .i64 n, .slice a len cap]
  rw [World.size_alloc, World.size_alloc] at hbx
  have hbb := (Box.new (w.alloc (.cells #[.int .i64 n, .slice a len cap] 32)) 84 #[.pointer none, .slice none 0 0]).next (.cells #[.int .i64 n, .slice a len cap] 32)
  rw [World.size_alloc] at hbb
  refine wpIn_rangeFunc_ownG rfl (by omega) (gf := 64) (lb := #[.pointer (some ⟨w.heap.size + 1 + 1, 0, none⟩)]) rfl trivial (enters_of Try.func64 (by kernel_rfl) rfl)
    HST.out KeepsOn.trans (keepsOn_b (by simp; omega) (by simp)) (Below.refl _ _) (fun _ => rfl)
    (fun pre W => (Lib.IsBuilderF 84 5 (w.heap.size + 1) (w.heap.size + 1) (Lib.byteCells (digits (pre.map Prod.snd))) W ∧ Box W (w.heap.size + 1 + 1) 32 #[.int .i64 n, .slice a len cap]) ∧ Below w.heap.size w W)
    (fun _ _ _ => False)
    (Go.OwnFrom.and (Go.OwnFrom.and (Go.Own.from (builder_own _ _ _ _ _) _) (Go.Own.from (box_own _ _ _) _)) (ownFrom_below (Nat.le_refl _) (by simp; omega)))
    (fun _ _ _ _ _ hs _ _ => hs)
    ⟨⟨.inl ⟨Nat.le_refl _, _, hbb, World.ownsRowF_nil _ _ _ _, by simp [Value.ownBlock]⟩, hbx⟩, hB0⟩
    (fun p => { tmps := #[.agg #[.int .i64 n, .slice a len cap], .pointer (some ⟨w.heap.size, 0, none⟩), .string ⟨#[]⟩, .pointer (some ⟨w.heap.size + 1, 0, none⟩), undef, .bool p.2, .agg #[.int .i64 n, .slice a len cap],
      .func (.func 64) #[] #[.pointer (some ⟨w.heap.size + 1 + 1, 0, none⟩)], .int .i64 (p.1 : Int), .bool p.2, undef, undef, undef, undef], defers := [] }) ?assign ?body ?done ?stop
  case assign =>
    intro l x W K hK
    gi_wp2
    exact hK
  case body =>
    rintro l pre ⟨j, b⟩ W ⟨⟨hbu, hbo⟩, hB⟩ hlt
    have hsz := hbo.lt
    have hs1 := digits_snoc pre (j, b)
    have hs2 := digits_len pre
    have HS := Lib.hid hs1
    have HBU := Lib.hid hbu
    have HBO := Lib.hid hbo
    have HB := Lib.hid hB
    have HL2 := Lib.hid hs2
    clear hs1 hbu hbo hB hs2
    cases b
    · gi_wp2_with fail
      refine ⟨trivial, ?_⟩
      with_reducible refine (CallsIn.inRound l (callsIn_wide.2 (writeByte_any (w.heap.size + 1) (w.heap.size + 1) _ _ _ HBU.out (by rw [HL2.out]; omega) (by omega)))).mono ?_
      rintro e w2 ⟨rfl, h1, h2, h3⟩
      have hbo2 := h3 _ _ HBO.out (by simp) (fun c fz he => by cases he)
      have HE : Hid (ownPostG (((w.alloc (.cells #[.int .i64 n, .slice a len cap] 32)).alloc (.cells #[.pointer none, .slice none 0 0] 84)).alloc (.cells #[.int .i64 n, .slice a len cap] 32)).heap.size (KeepsOn w.heap.size (w.heap.size + 1 + 1))
        (fun pre W => (Lib.IsBuilderF 84 5 (w.heap.size + 1) (w.heap.size + 1) (Lib.byteCells (digits (pre.map Prod.snd))) W ∧ Box W (w.heap.size + 1 + 1) 32 #[.int .i64 n, .slice a len cap]) ∧ Below w.heap.size w W) (fun _ _ _ => False) (pre ++ [(j, false)]) W .normal { tmps := #[], defers := [] } w2) := by
        refine ⟨othersKept_from h3 (Below.size h2) (by simp), ⟨Below.os h2, Below.tape h2, Below.output h2, Below.size h2, fun k hk hkl => ?_⟩, ⟨.inr ?_, hbo2⟩, HB.out.trans (h2.mono (by omega))⟩
        · rcases hk with hk | rfl
          · exact Below.block h2 k (by omega)
          · exact hbo2.trans HBO.out.symm
        · rw [HS.out]; exact h1
      clear h1 h2 h3 hbo2
      gi_wp2
      exact HE.out
    · gi_wp2_with fail
      refine ⟨trivial, ?_⟩
      with_reducible refine (CallsIn.inRound l (callsIn_wide.2 (writeByte_any (w.heap.size + 1) (w.heap.size + 1) _ _ _ HBU.out (by rw [HL2.out]; omega) (by omega)))).mono ?_
      rintro e w2 ⟨rfl, h1, h2, h3⟩
      have hbo2 := h3 _ _ HBO.out (by simp) (fun c fz he => by cases he)
      have HE : Hid (ownPostG (((w.alloc (.cells #[.int .i64 n, .slice a len cap] 32)).alloc (.cells #[.pointer none, .slice none 0 0] 84)).alloc (.cells #[.int .i64 n, .slice a len cap] 32)).heap.size (KeepsOn w.heap.size (w.heap.size + 1 + 1))
        (fun pre W => (Lib.IsBuilderF 84 5 (w.heap.size + 1) (w.heap.size + 1) (Lib.byteCells (digits (pre.map Prod.snd))) W ∧ Box W (w.heap.size + 1 + 1) 32 #[.int .i64 n, .slice a len cap]) ∧ Below w.heap.size w W) (fun _ _ _ => False) (pre ++ [(j, true)]) W .normal { tmps := #[], defers := [] } w2) := by
        refine ⟨othersKept_from h3 (Below.size h2) (by simp), ⟨Below.os h2, Below.tape h2, Below.output h2, Below.size h2, fun k hk hkl => ?_⟩, ⟨.inr ?_, hbo2⟩, HB.out.trans (h2.mono (by omega))⟩
        · rcases hk with hk | rfl
          · exact Below.block h2 k (by omega)
          · exact hbo2.trans HBO.out.symm
        · rw [HS.out]; exact h1
      clear h1 h2 h3 hbo2
      gi_wp2
      exact HE.out
  case done =>
    rintro D ys W hD rfl ⟨⟨hbu, hbo⟩, hB⟩ hK
    rw [pairs_snd] at hbu
    have hsz := hbo.lt
    have HBU := Lib.hid hbu
    have HB := Lib.hid hB
    have HKD := Lib.hid hK
    have hD2 : w.heap.size + 1 < D := by simp at hD; omega
    clear hbu hbo hB hK hD
    gi_wp2_with fail
    refine ⟨trivial, ?_⟩
    with_reducible refine (callsIn_wide.2 (builderString (w.heap.size + 1) (w.heap.size + 1) (digits L) _ HBU.out (by omega))).mono ?_
    rintro e w3 ⟨rfl, h2, h3⟩
    have hK3 := h3 _ _ HKD.out (by simp; omega) (fun c fz he => by cases he)
    have HB3 := Lib.hid (HB.out.trans (h2.mono (show w.heap.size ≤ w.heap.size + 1 by omega)))
    have HK3 := Lib.hid hK3
    clear h2 h3 hK3
    gi_wp2
    refine ⟨by simp, .inl ⟨_, _, rfl, run_takeDeferred HK3.out, ?_⟩⟩
    exact ⟨_, results_tmp rfl _ _ _, rfl, HB3.out.trans (belowK_b (w := w) (Nat.le_refl _) w3 D _ _ (by omega) HK3.out rfl rfl)⟩
  case stop =>
    rintro D c pre W _ _ h _
    exact h.elim
end Go.Proofs.Ytkbdpdcandpfdaa
